import Derived.Test.YtipljcmmokaokaaGreatQM38
import Derived.Lib.SlBytesConst
set_option linter.unusedVariables false
set_option linter.unusedSimpArgs false
set_option maxHeartbeats 8000000
namespace Go.Proofs.YtipljcmmokaokaaGreat
open Go.RowKit Go.Lib Go.Maps Go.WideMaps Go.Sort
set_option maxRecDepth 100000
namespace X
def Vm:M:=M.new [⟨0,2,false⟩,⟨2,1,true⟩] 4
def Vn:M:=(Vm.open 2 false).1
theorem Vp:Vm.open 2 false=(Vn,[48,48]):=by kernel_rfl
def Vq:M:=(Vn.close).1
theorem Vr:Vn.close=(Vq,[48,48]):=by kernel_rfl
def QX:M:=(Vq.open 3 false).1
theorem Vs:Vq.open 3 false=(QX,[48,48]):=by kernel_rfl
def QY:M:=(QX.write [98,49,120]).1
theorem Vt:QX.write [98,49,120]=(QY,[48,48]):=by kernel_rfl
def QZ:M:=(QY.write [97,49,120]).1
theorem Vu:QY.write [97,49,120]=(QZ,[48,50]):=by kernel_rfl
def Ra:M:=(QZ.write [97,50,119]).1
theorem Vv:QZ.write [97,50,119]=(Ra,[48,48]):=by kernel_rfl
def Rb:M:=(Ra.write [97,49,122]).1
theorem Vw:Ra.write [97,49,122]=(Rb,[50,50]):=by kernel_rfl
def Jd:M:=(Rb.write [97,98]).1
theorem Vy:Rb.write [97,98]=(Jd,[52,52]):=by kernel_rfl
def Rc:M:=(Jd.next).1
theorem Vz:Jd.next=(Rc,some [97,49,120],[48,48]):=by kernel_rfl
def Gd:M:=(Rc.next).1
theorem Re:Rc.next=(Gd,some [97,50,119],[48,48]):=by kernel_rfl
def Ge:M:=(Gd.next).1
theorem Rf:Gd.next=(Ge,some [98,49,120],[48,48]):=by kernel_rfl
def Gf:M:=(Ge.next).1
theorem Rg:Ge.next=(Gf,none,[49,48]):=by kernel_rfl
def Cb:M:=(Gf.next).1
theorem Rh:Gf.next=(Cb,none,[52,54]):=by kernel_rfl
def NH:M:=(Cb.get 1 [46,46,120]).1
theorem Ri:Cb.get 1 [46,46,120]=(NH,some [98,49,120],[48,50]):=by kernel_rfl
def NI:M:=(NH.next).1
theorem Rj:NH.next=(NI,some [97,49,120],[48,48]):=by kernel_rfl
def NJ:M:=(NI.next).1
theorem Rk:NI.next=(NJ,none,[49,48]):=by kernel_rfl
def NK:M:=(NJ.rewrite [98,49,119]).1
theorem Rl:NJ.rewrite [98,49,119]=(NK,[48,50]):=by kernel_rfl
def NL:M:=(NK.start 1 2 [119]).1
theorem Rm:NK.start 1 2 [119]=(NL,[48,48]):=by kernel_rfl
def NM:M:=(NL.next).1
theorem Rn:NL.next=(NM,some [97,50,119],[48,50]):=by kernel_rfl
def NN:M:=(NM.next).1
theorem Ro:NM.next=(NN,some [98,49,119],[48,48]):=by kernel_rfl
def NP:M:=(NN.delete [97,50]).1
theorem Rp:NN.delete [97,50]=(NP,[48,48]):=by kernel_rfl
def NQ:M:=(NP.get 0 [97,50]).1
theorem Rq:NP.get 0 [97,50]=(NQ,none,[50,51]):=by kernel_rfl
def NR:M:=(NQ.start 0 3 [98]).1
theorem Rs:NQ.start 0 3 [98]=(NR,[48,48]):=by kernel_rfl
def NS:M:=(NR.next).1
theorem Rt:NR.next=(NS,some [97,49,120],[48,48]):=by kernel_rfl
def NT:M:=(NS.rewrite [122,122,122]).1
theorem Ru:NS.rewrite [122,122,122]=(NT,[50,51]):=by kernel_rfl
def Zb:M:=(NT.start 2 0 [120]).1
theorem Rv:NT.start 2 0 [120]=(Zb,[50,51]):=by kernel_rfl
theorem NU (m:M) (h:m.ks=[⟨0,2,false⟩,⟨2,1,true⟩]) (hs:m.size=4) (u:Nat) (hu:u≤20):Bd [70] m.ks m.size u:=by
 rw[h,hs];refine⟨2,by decide,λi hi=> ?_, ?_⟩
 ·match i,hi with
  |0,_=>decide
  |1,_=>decide
 ·rw[gg];simp only[List.length_cons,List.length_nil];omega
end X
theorem ac1:yV [70]:=⟨by decide,by decide,by decide⟩
section
variable {w0 w : World} {p pf u : Nat} {nm : J.B} {fs : List (Nat × Obj)} {m : X.M}
theorem IX.get (h:IX w0 p pf nm u fs m w) {x:Nat×Obj} (hx:x∈fs):w.heap[x.1]? =some x.2:=by
 obtain⟨L,s,f,g,c,ok,h⟩:=h;exact h.at_.get (ag _ (ag _ hx))
theorem Cc {w:World} (b:J.B) (hcap:(⟨b.toArray⟩:ByteArray).size≤grownCap w (⟨b.toArray⟩:ByteArray).size 0 5):
  Sl (w.drew.alloc (.cells (bytesRow ⟨b.toArray⟩ (grownCap w (⟨b.toArray⟩:ByteArray).size 0 5)) 5 ((bytesRow ⟨b.toArray⟩ (grownCap w (⟨b.toArray⟩:ByteArray).size 0 5)).size,(bytesRow ⟨b.toArray⟩ (grownCap w (⟨b.toArray⟩:ByteArray).size 0 5)).size+1))) bF (.slice (some ⟨w.heap.size,0,none⟩) (⟨b.toArray⟩:ByteArray).size (grownCap w (⟨b.toArray⟩:ByteArray).size 0 5)) b:=by
 have hsz:(⟨b.toArray⟩:ByteArray).size=b.length:=by simp[ByteArray.size]
 rw[hsz]at hcap⊢;have hl:w.heap.size<(w.drew.alloc (.cells (bytesRow ⟨b.toArray⟩ (grownCap w b.length 0 5)) 5 ((bytesRow ⟨b.toArray⟩ (grownCap w b.length 0 5)).size,(bytesRow ⟨b.toArray⟩ (grownCap w b.length 0 5)).size+1))).heap.size:=by
  show w.heap.size<(w.heap.push _).size;simp
 refine .inr ⟨w.heap.size,0,_,rfl,hcap,hl,rfl,λ_=>⟨w.heap.size,0,rfl,hl,λh=>h,λj hj=> ?_⟩⟩;rw[Nat.zero_add,cell_of_row _ w.heap.size j _ _ _ (heap_alloc_new w.drew _)];have:=bytesRow_at ⟨b.toArray⟩ (grownCap w b.length 0 5) j (by simpa using hj);rw[this];simp[u8]
theorem qX (h:IX w0 p pf nm u fs m w) (b:J.B) (hb:b≠[]):∃c w' o,(convert 9 40 (.string ⟨b.toArray⟩)).run Tryz.prog w= .ok (.slice (some ⟨w.heap.size,0,none⟩) b.length c) w'∧IX w0 p pf nm u ((w.heap.size,o)::fs) m w'∧Src w0 p ((w.heap.size,o)::fs) (.slice (some ⟨w.heap.size,0,none⟩) b.length c) b:=by
 have hrun:=run_bytes_of_string (P:=Tryz.prog) w 9 40 5 ⟨b.toArray⟩ Tryz.underlying9 Tryz.underlying40 Tryz.underlying5;have hsz:(⟨b.toArray⟩:ByteArray).size=b.length:=by simp[ByteArray.size]
 have hcap:(⟨b.toArray⟩:ByteArray).size≤grownCap w (⟨b.toArray⟩:ByteArray).size 0 5:=by simp[grownCap,Question.cut]
 have eG:=Cc (w:=w) b hcap;have hm:=(h.below ((ak _ w).drew)).more (.cells (bytesRow ⟨b.toArray⟩ (grownCap w (⟨b.toArray⟩:ByteArray).size 0 5)) 5 ((bytesRow ⟨b.toArray⟩ (grownCap w (⟨b.toArray⟩:ByteArray).size 0 5)).size,(bytesRow ⟨b.toArray⟩ (grownCap w (⟨b.toArray⟩:ByteArray).size 0 5)).size+1));have hb2:=Gb (w0:=w0) (p:=p) eG hb (heap_alloc_new w.drew _) (af (l:=fs));rw[hsz]at hrun hm hb2;exact⟨_,_,_,hrun,hm,hb2⟩
theorem fg {w0 w:World} {v:Value} {l:J.B} (h:bT w (· <w0.heap.size) v l):∃A,v= .slice A l.length l.length∧By w (· <w0.heap.size) A l.length l:=by
 obtain⟨A,e⟩:=h.cP;subst e;refine⟨A,rfl, ?_⟩;obtain⟨A',c',e,_,hby⟩:=h.sl.by
 injection e with e1 e2 e3;rw[e1];exact hby
end
abbrev tj:Obj:=(.cells #[.string ⟨#[98,49,120]⟩, .string ⟨#[97,49,120]⟩, .string ⟨#[97,50,119]⟩, .string ⟨#[97,49,122]⟩, .string ⟨#[97,98]⟩] 9 (0,0):Obj)
abbrev tk:Obj:=(.cells #[.string ⟨#[48,48]⟩, .string ⟨#[48,50]⟩, .string ⟨#[48,48]⟩, .string ⟨#[50,50]⟩, .string ⟨#[52,52]⟩] 9 (0,0):Obj)
abbrev EH:Obj:=(.cells #[.string ⟨#[97,49,120]⟩, .string ⟨#[97,50,119]⟩, .string ⟨#[98,49,120]⟩, .string ⟨#[]⟩, .string ⟨#[]⟩] 9 (0,0):Obj)
abbrev EI:Obj:=(.cells #[.string ⟨#[48,48]⟩, .string ⟨#[48,48]⟩, .string ⟨#[48,48]⟩, .string ⟨#[49,48]⟩, .string ⟨#[52,54]⟩] 9 (0,0):Obj)
def SU:Nat→X.M
 |0=>X.QX
 |1=>X.QY
 |2=>X.QZ
 |3=>X.Ra
 |4=>X.Rb
 |_=>X.Jd
def SV:Nat→X.M
 |0=>X.Jd
 |1=>X.Rc
 |2=>X.Gd
 |3=>X.Ge
 |4=>X.Gf
 |_=>X.Cb
def SX (w:World) (pf:Nat) (A:Option Addr) (l:J.B):Prop:=By w (· =pf) A l.length l
theorem tO {w w':World} {pf:Nat} {A:Option Addr} {l:J.B} (h:SX w pf A l) (hg:w.grownBy w' (some pf)):SX w' pf A l:=
 h.step (⟨hg.os,hg.tape,hg.output,hg.size,λk hk hn=>hg.block k hk (λe=>hn (by injection e)),λk hk hm=>hm⟩:Step _ (· =pf) _ _)
theorem vz {w0 w w':World} {p pf u:Nat} {nm:J.B} {fs:List (Nat×Obj)} {m:X.M} {A:Option Addr} {l:J.B} (h:By w' (· <w.heap.size) A l.length l) (hx:IX w0 p pf nm u fs m w):SX w' pf A l:=by
 obtain⟨L,s,f,g,c,ok,hx⟩:=hx;have h1:pf<w.heap.size:=(ai (hx.at_.get af)).1;refine⟨rfl,λhn=> ?_⟩;obtain⟨b,o,e,h2,h3,h4⟩:=h.2 hn;exact⟨b,o,e,h2,λhh=>h3 (by rw[hh];exact h1),h4⟩
theorem vA (w:World):
  Calls Tryz.prog 8 #[] w λe w'=>e= .returned (.bool true)∧Below w.heap.size w w':=by
 have kc:=λ(w:World) (C:Array Value) (n c:Nat)=>Lib.run_convert_bytes_const (P:=Tryz.prog) w 40 5 C n c Tryz.underlying40 Tryz.underlying5;have KC:=ae kc;clear kc;go_enter Tryz.func8,Tryz.ntmps8;go_wp2_with fail;refine(KZ w _ (ak _ _)).mono ?_;rintro e W ⟨p,rfl,h⟩;have H:=ae h;clear h;go_wp2_with fail;have ZL:Hid (sV (W.alloc (.cells #[.int .i64 0, .int .i64 2, .bool false, .int .i64 2, .int .i64 1, .bool true] 66)) W.heap.size 0 2 (λi=>if i=0 then 0 else 2) (λi=>if i=0 then 2 else 1) (λi=>if i=0 then false else true)):=ae (by
  have hr:=heap_alloc_new W (.cells #[.int .i64 0, .int .i64 2, .bool false, .int .i64 2, .int .i64 1, .bool true] 66);refine⟨(ai hr).1,λi hi=> ?_,λi hi=> ?_,λi hi=> ?_⟩
  all_goals
   rw[cell_of_row _ W.heap.size _ _ _ _ hr]
   match i,hi with
   |0,_=>rfl
   |1,_=>rfl)
 refine(Nj (H.out.below ((ak _ W).alloc (aq _) _)) [70] 4 W.heap.size 0 2 2 _ _ _ ZL.out (by kernel_rfl)).mono ?_;rintro e W0 ⟨pf,rfl,h,_⟩;have H0:Hid (IX w p pf [70] 0 [] X.Vm W0):=ae (YY h);clear h H ZL;go_wp2_with fail;refine(Nz H0.out (by decide) (X.NU _ rfl rfl _ (by decide)) 2 false X.Vp).mono ?_;rintro e W1 ⟨rfl,h⟩;have H1:=ae h;clear h H0;go_wp2_with fail;refine(QR H1.out X.Vr).mono ?_;rintro e W2 ⟨rfl,h⟩;have H2:=ae h;clear h H1;go_wp2_with fail;refine(Nz H2.out (by decide) (X.NU _ rfl rfl _ (by decide)) 3 false X.Vs).mono ?_;rintro e W3 ⟨rfl,h⟩;have HS:Hid (IX w p pf [70] 3 [(W3.heap.size+1,tk),(W3.heap.size,tj)] (SU 0) ((W3.alloc tj).alloc tk)):=by
  have h1:=(h.more tj).more tk;rw[World.size_alloc]at h1;exact ae h1
 clear h H2;generalize lh:W3.heap.size+1=b5 at HS;go_upto_region 7 with fail;generalize W3.heap.size=b4 at HS lh⊢;refine aM (λY=>IX w p pf [70] 3 [(b5,tk),(b4,tj)] (SU 0) Y) HS.out ?_;rintro W4 h;have H4:=ae h;clear h HS lh;go_wp2_with fail;go_loopw [6] (fun u W=>∃i:Nat,i≤5∧u= .int .i64 i∧Hid (IX w p pf [70] (3+i) [(b5,tk),(b4,tj)] (SU i) W)) (fun u _=>5 - (intOf u).toNat)
 case atStart=>exact⟨0,by decide,rfl,H4⟩
 case round=>
  clear H4;obtain⟨i,hi,rfl,HI⟩:=hrel;by_cases hlt:i<5
  ·clear hi;obtain rfl|rfl|rfl|rfl|rfl:i=0∨i=1∨i=2∨i=3∨i=4:=by omega
   ·clear hlt;go_upto_region 10 with fail;have eu:=ae (HI.out.below ((ak wr.heap.size wr).drew));refine aD 11 (.rd 0 (.rd 1 (.rd 2 (.rd 3 (.rd 4 (.rd 7 (.rd 8 (.rd 9 (.rd 10 (.wr 5 (.wr 6 .fin))))))))))) (λw'=>w'.heap[b4]? =some tj∧w'.heap[b5]? =some tk) (by kernel_rfl) (by kernel_rfl) (λc a d v w h=>by cases d<;>exact h) ⟨eu.out.get (ag _ af),eu.out.get af⟩ ?_;generalize wr.drew=V0 at eu⊢
    iterate 9
     refine az (v:= ?_) (by rfl) (by rfl) (λw' hS=> ?_) (λK hK=> ?_);rotate_left
     ·have ha:=aj w' b4 hS.1;have hb:=aj w' b5 hS.2;clear hS;go_simp;try with_reducible rfl
     go_simp;refine hK _ ?_;clear hK K
    refine wpPm_write (by rfl) (λK hK=> ?_);go_simp;obtain⟨c2,V1,o2,hrun,rO,qY⟩:=qX eu.out [98,49,120] (by decide);rw[hrun];have sg:=ae rO;have su:=ae qY;clear rO qY hrun;go_simp;refine hK.out _ _ (λw'=>w'.heap[b4]? =some tj∧w'.heap[b5]? =some tk) (λ_ h=>h) ⟨sg.out.get (ag _ (ag _ af)),sg.out.get (ag _ af)⟩ ?_;clear hK K;refine wpPm_write (by rfl) (λK hK=> ?_);go_simp;refine(oz sg.out (by decide) _ _ su.out X.Vt).mono ?_;rintro e V2 ⟨rfl,h⟩;have qZ:Hid (IX w p pf [70] (3+0+1) [(b5,tk),(b4,tj)] (SU (0+1)) V2):=ae (h.cY (λx hx=>ag _ hx));refine hK.out _ _ (λw'=>w'.heap[b4]? =some tj∧w'.heap[b5]? =some tk) (λ_ h=>h) ⟨qZ.out.get (ag _ af),qZ.out.get af⟩ ?_;clear hK K h sg su eu;show wpList _ _ _ _ _ _;go_wp2;go_roundw
    case rel=>exact⟨0+1,by decide,rfl,qZ⟩
    case measure=>decide
   ·clear hlt;go_upto_region 10 with fail;have eu:=ae (HI.out.below ((ak wr.heap.size wr).drew));refine aD 11 (.rd 0 (.rd 1 (.rd 2 (.rd 3 (.rd 4 (.rd 7 (.rd 8 (.rd 9 (.rd 10 (.wr 5 (.wr 6 .fin))))))))))) (λw'=>w'.heap[b4]? =some tj∧w'.heap[b5]? =some tk) (by kernel_rfl) (by kernel_rfl) (λc a d v w h=>by cases d<;>exact h) ⟨eu.out.get (ag _ af),eu.out.get af⟩ ?_;generalize wr.drew=V0 at eu⊢
    iterate 9
     refine az (v:= ?_) (by rfl) (by rfl) (λw' hS=> ?_) (λK hK=> ?_);rotate_left
     ·have ha:=aj w' b4 hS.1;have hb:=aj w' b5 hS.2;clear hS;go_simp;try with_reducible rfl
     go_simp;refine hK _ ?_;clear hK K
    refine wpPm_write (by rfl) (λK hK=> ?_);go_simp;obtain⟨c2,V1,o2,hrun,rO,qY⟩:=qX eu.out [97,49,120] (by decide);rw[hrun];have sg:=ae rO;have su:=ae qY;clear rO qY hrun;go_simp;refine hK.out _ _ (λw'=>w'.heap[b4]? =some tj∧w'.heap[b5]? =some tk) (λ_ h=>h) ⟨sg.out.get (ag _ (ag _ af)),sg.out.get (ag _ af)⟩ ?_;clear hK K;refine wpPm_write (by rfl) (λK hK=> ?_);go_simp;refine(oz sg.out (by decide) _ _ su.out X.Vu).mono ?_;rintro e V2 ⟨rfl,h⟩;have qZ:Hid (IX w p pf [70] (3+1+1) [(b5,tk),(b4,tj)] (SU (1+1)) V2):=ae (h.cY (λx hx=>ag _ hx));refine hK.out _ _ (λw'=>w'.heap[b4]? =some tj∧w'.heap[b5]? =some tk) (λ_ h=>h) ⟨qZ.out.get (ag _ af),qZ.out.get af⟩ ?_;clear hK K h sg su eu;show wpList _ _ _ _ _ _;go_wp2;go_roundw
    case rel=>exact⟨1+1,by decide,rfl,qZ⟩
    case measure=>decide
   ·clear hlt;go_upto_region 10 with fail;have eu:=ae (HI.out.below ((ak wr.heap.size wr).drew));refine aD 11 (.rd 0 (.rd 1 (.rd 2 (.rd 3 (.rd 4 (.rd 7 (.rd 8 (.rd 9 (.rd 10 (.wr 5 (.wr 6 .fin))))))))))) (λw'=>w'.heap[b4]? =some tj∧w'.heap[b5]? =some tk) (by kernel_rfl) (by kernel_rfl) (λc a d v w h=>by cases d<;>exact h) ⟨eu.out.get (ag _ af),eu.out.get af⟩ ?_;generalize wr.drew=V0 at eu⊢
    iterate 9
     refine az (v:= ?_) (by rfl) (by rfl) (λw' hS=> ?_) (λK hK=> ?_);rotate_left
     ·have ha:=aj w' b4 hS.1;have hb:=aj w' b5 hS.2;clear hS;go_simp;try with_reducible rfl
     go_simp;refine hK _ ?_;clear hK K
    refine wpPm_write (by rfl) (λK hK=> ?_);go_simp;obtain⟨c2,V1,o2,hrun,rO,qY⟩:=qX eu.out [97,50,119] (by decide);rw[hrun];have sg:=ae rO;have su:=ae qY;clear rO qY hrun;go_simp;refine hK.out _ _ (λw'=>w'.heap[b4]? =some tj∧w'.heap[b5]? =some tk) (λ_ h=>h) ⟨sg.out.get (ag _ (ag _ af)),sg.out.get (ag _ af)⟩ ?_;clear hK K;refine wpPm_write (by rfl) (λK hK=> ?_);go_simp;refine(oz sg.out (by decide) _ _ su.out X.Vv).mono ?_;rintro e V2 ⟨rfl,h⟩;have qZ:Hid (IX w p pf [70] (3+2+1) [(b5,tk),(b4,tj)] (SU (2+1)) V2):=ae (h.cY (λx hx=>ag _ hx));refine hK.out _ _ (λw'=>w'.heap[b4]? =some tj∧w'.heap[b5]? =some tk) (λ_ h=>h) ⟨qZ.out.get (ag _ af),qZ.out.get af⟩ ?_;clear hK K h sg su eu;show wpList _ _ _ _ _ _;go_wp2;go_roundw
    case rel=>exact⟨2+1,by decide,rfl,qZ⟩
    case measure=>decide
   ·clear hlt;go_upto_region 10 with fail;have eu:=ae (HI.out.below ((ak wr.heap.size wr).drew));refine aD 11 (.rd 0 (.rd 1 (.rd 2 (.rd 3 (.rd 4 (.rd 7 (.rd 8 (.rd 9 (.rd 10 (.wr 5 (.wr 6 .fin))))))))))) (λw'=>w'.heap[b4]? =some tj∧w'.heap[b5]? =some tk) (by kernel_rfl) (by kernel_rfl) (λc a d v w h=>by cases d<;>exact h) ⟨eu.out.get (ag _ af),eu.out.get af⟩ ?_;generalize wr.drew=V0 at eu⊢
    iterate 9
     refine az (v:= ?_) (by rfl) (by rfl) (λw' hS=> ?_) (λK hK=> ?_);rotate_left
     ·have ha:=aj w' b4 hS.1;have hb:=aj w' b5 hS.2;clear hS;go_simp;try with_reducible rfl
     go_simp;refine hK _ ?_;clear hK K
    refine wpPm_write (by rfl) (λK hK=> ?_);go_simp;obtain⟨c2,V1,o2,hrun,rO,qY⟩:=qX eu.out [97,49,122] (by decide);rw[hrun];have sg:=ae rO;have su:=ae qY;clear rO qY hrun;go_simp;refine hK.out _ _ (λw'=>w'.heap[b4]? =some tj∧w'.heap[b5]? =some tk) (λ_ h=>h) ⟨sg.out.get (ag _ (ag _ af)),sg.out.get (ag _ af)⟩ ?_;clear hK K;refine wpPm_write (by rfl) (λK hK=> ?_);go_simp;refine(oz sg.out (by decide) _ _ su.out X.Vw).mono ?_;rintro e V2 ⟨rfl,h⟩;have qZ:Hid (IX w p pf [70] (3+3+1) [(b5,tk),(b4,tj)] (SU (3+1)) V2):=ae (h.cY (λx hx=>ag _ hx));refine hK.out _ _ (λw'=>w'.heap[b4]? =some tj∧w'.heap[b5]? =some tk) (λ_ h=>h) ⟨qZ.out.get (ag _ af),qZ.out.get af⟩ ?_;clear hK K h sg su eu;show wpList _ _ _ _ _ _;go_wp2;go_roundw
    case rel=>exact⟨3+1,by decide,rfl,qZ⟩
    case measure=>decide
   ·clear hlt;go_upto_region 10 with fail;have eu:=ae (HI.out.below ((ak wr.heap.size wr).drew));refine aD 11 (.rd 0 (.rd 1 (.rd 2 (.rd 3 (.rd 4 (.rd 7 (.rd 8 (.rd 9 (.rd 10 (.wr 5 (.wr 6 .fin))))))))))) (λw'=>w'.heap[b4]? =some tj∧w'.heap[b5]? =some tk) (by kernel_rfl) (by kernel_rfl) (λc a d v w h=>by cases d<;>exact h) ⟨eu.out.get (ag _ af),eu.out.get af⟩ ?_;generalize wr.drew=V0 at eu⊢
    iterate 9
     refine az (v:= ?_) (by rfl) (by rfl) (λw' hS=> ?_) (λK hK=> ?_);rotate_left
     ·have ha:=aj w' b4 hS.1;have hb:=aj w' b5 hS.2;clear hS;go_simp;try with_reducible rfl
     go_simp;refine hK _ ?_;clear hK K
    refine wpPm_write (by rfl) (λK hK=> ?_);go_simp;obtain⟨c2,V1,o2,hrun,rO,qY⟩:=qX eu.out [97,98] (by decide);rw[hrun];have sg:=ae rO;have su:=ae qY;clear rO qY hrun;go_simp;refine hK.out _ _ (λw'=>w'.heap[b4]? =some tj∧w'.heap[b5]? =some tk) (λ_ h=>h) ⟨sg.out.get (ag _ (ag _ af)),sg.out.get (ag _ af)⟩ ?_;clear hK K;refine wpPm_write (by rfl) (λK hK=> ?_);go_simp;refine(oz sg.out (by decide) _ _ su.out X.Vy).mono ?_;rintro e V2 ⟨rfl,h⟩;have qZ:Hid (IX w p pf [70] (3+4+1) [(b5,tk),(b4,tj)] (SU (4+1)) V2):=ae (h.cY (λx hx=>ag _ hx));refine hK.out _ _ (λw'=>w'.heap[b4]? =some tj∧w'.heap[b5]? =some tk) (λ_ h=>h) ⟨qZ.out.get (ag _ af),qZ.out.get af⟩ ?_;clear hK K h sg su eu;show wpList _ _ _ _ _ _;go_wp2;go_roundw
    case rel=>exact⟨4+1,by decide,rfl,qZ⟩
    case measure=>decide
  ·obtain rfl:i=5:=(by omega);rw[show(((5:Nat):Int))=5 from rfl];have YP:Hid (IX w p pf [70] 8 [] X.Jd wr):=ae (HI.out.cY (λx hx=>oN hx));clear HI hlt hi;have po:Hid (IX w p pf [70] 8 [(wr.heap.size+1,EI),(wr.heap.size,EH)] (SV 0) ((wr.alloc EH).alloc EI)):=by
    have h1:=(YP.out.more EH).more EI;rw[World.size_alloc]at h1;exact ae h1
   clear YP;generalize JN:wr.heap.size+1=b8 at po;go_upto_region 14 with fail;generalize wr.heap.size=b7 at po JN⊢;refine aM (λY=>IX w p pf [70] 8 [(b8,EI),(b7,EH)] (SV 0) Y) po.out ?_;rintro W5 h;have H5:=ae h;clear h po JN;go_wp2_with fail;go_loopw [9] (fun u W=>∃i:Nat,i≤5∧u= .int .i64 i∧Hid (IX w p pf [70] (8+i) [(b8,EI),(b7,EH)] (SV i) W)) (fun u _=>5 - (intOf u).toNat)
   case atStart=>exact⟨0,by decide,rfl,H5⟩
   case round=>
    clear H5;obtain⟨i,hi,rfl,HI⟩:=hrel;by_cases hlt:i<5
    ·clear hi;obtain rfl|rfl|rfl|rfl|rfl:i=0∨i=1∨i=2∨i=3∨i=4:=by omega
     ·clear hlt;go_wp2_with fail;refine(vy HI.out (by decide) X.Vz).mono ?_;rintro e V2 ⟨v,rfl,hs,h⟩;obtain⟨A2,rfl,hby⟩:=fg hs;have qZ:Hid (IX w p pf [70] (8+0+1) [(b8,EI),(b7,EH)] (SV (0+1)) V2):=ae h;have zf:=ae (qZ.out.below ((ak V2.heap.size V2).drew));have lY:=ae hby
      clear h hs hby
      go_upto_region 18 with fail;refine aK (.rd 0 (.rd 1 (.rd 2 (.rd 3 (.rd 4 (.rd 5 (.rd 6 (.rd 7 (.rd 8 (.rd 9 (.rd 10 (.rd 11 (.rd 12 (.rd 13 (.rd 14 .fin))))))))))))))) (λw'=>w'.heap[b7]? =some EH∧w'.heap[b8]? =some EI∧By w' (· <wr.heap.size) A2 3 [97,49,120]) (by kernel_rfl) (by kernel_rfl) (λc a d v w h=>by cases d<;>exact h) ⟨zf.out.get (ag _ af),zf.out.get af,lY.out.step (Step.aI ((ak V2.heap.size V2).drew))⟩ ?_
      iterate 15
       refine az (v:= ?_) (by rfl) (by rfl) (λw' hS=> ?_) (λK hK=> ?_);rotate_left
       ·have ha:=aj w' b7 hS.1;have hb:=aj w' b8 hS.2.1;have hcv:=bu (c:=3) hS.2.2;clear hS;go_simp;try with_reducible rfl
       go_simp;refine hK _ ?_;clear hK K
      show wpList _ _ _ _ _ _;simp only[wpList];go_wp2;go_roundw
      case rel=>exact⟨0+1,by decide,rfl,zf⟩
      case measure=>decide
     ·clear hlt;go_wp2_with fail;refine(vy HI.out (by decide) X.Re).mono ?_;rintro e V2 ⟨v,rfl,hs,h⟩;obtain⟨A2,rfl,hby⟩:=fg hs;have qZ:Hid (IX w p pf [70] (8+1+1) [(b8,EI),(b7,EH)] (SV (1+1)) V2):=ae h;have zf:=ae (qZ.out.below ((ak V2.heap.size V2).drew));have lY:=ae hby
      clear h hs hby
      go_upto_region 18 with fail;refine aK (.rd 0 (.rd 1 (.rd 2 (.rd 3 (.rd 4 (.rd 5 (.rd 6 (.rd 7 (.rd 8 (.rd 9 (.rd 10 (.rd 11 (.rd 12 (.rd 13 (.rd 14 .fin))))))))))))))) (λw'=>w'.heap[b7]? =some EH∧w'.heap[b8]? =some EI∧By w' (· <wr.heap.size) A2 3 [97,50,119]) (by kernel_rfl) (by kernel_rfl) (λc a d v w h=>by cases d<;>exact h) ⟨zf.out.get (ag _ af),zf.out.get af,lY.out.step (Step.aI ((ak V2.heap.size V2).drew))⟩ ?_
      iterate 15
       refine az (v:= ?_) (by rfl) (by rfl) (λw' hS=> ?_) (λK hK=> ?_);rotate_left
       ·have ha:=aj w' b7 hS.1;have hb:=aj w' b8 hS.2.1;have hcv:=bu (c:=3) hS.2.2;clear hS;go_simp;try with_reducible rfl
       go_simp;refine hK _ ?_;clear hK K
      show wpList _ _ _ _ _ _;simp only[wpList];go_wp2;go_roundw
      case rel=>exact⟨1+1,by decide,rfl,zf⟩
      case measure=>decide
     ·clear hlt;go_wp2_with fail;refine(vy HI.out (by decide) X.Rf).mono ?_;rintro e V2 ⟨v,rfl,hs,h⟩;obtain⟨A2,rfl,hby⟩:=fg hs;have qZ:Hid (IX w p pf [70] (8+2+1) [(b8,EI),(b7,EH)] (SV (2+1)) V2):=ae h;have zf:=ae (qZ.out.below ((ak V2.heap.size V2).drew));have lY:=ae hby
      clear h hs hby
      go_upto_region 18 with fail;refine aK (.rd 0 (.rd 1 (.rd 2 (.rd 3 (.rd 4 (.rd 5 (.rd 6 (.rd 7 (.rd 8 (.rd 9 (.rd 10 (.rd 11 (.rd 12 (.rd 13 (.rd 14 .fin))))))))))))))) (λw'=>w'.heap[b7]? =some EH∧w'.heap[b8]? =some EI∧By w' (· <wr.heap.size) A2 3 [98,49,120]) (by kernel_rfl) (by kernel_rfl) (λc a d v w h=>by cases d<;>exact h) ⟨zf.out.get (ag _ af),zf.out.get af,lY.out.step (Step.aI ((ak V2.heap.size V2).drew))⟩ ?_
      iterate 15
       refine az (v:= ?_) (by rfl) (by rfl) (λw' hS=> ?_) (λK hK=> ?_);rotate_left
       ·have ha:=aj w' b7 hS.1;have hb:=aj w' b8 hS.2.1;have hcv:=bu (c:=3) hS.2.2;clear hS;go_simp;try with_reducible rfl
       go_simp;refine hK _ ?_;clear hK K
      show wpList _ _ _ _ _ _;simp only[wpList];go_wp2;go_roundw
      case rel=>exact⟨2+1,by decide,rfl,zf⟩
      case measure=>decide
     ·clear hlt;go_wp2_with fail;refine(vy HI.out (by decide) X.Rg).mono ?_;rintro e V2 ⟨v,rfl,hs,h⟩;obtain⟨A2,rfl,hby⟩:=fg hs;have qZ:Hid (IX w p pf [70] (8+3+1) [(b8,EI),(b7,EH)] (SV (3+1)) V2):=ae h;have zf:=ae (qZ.out.below ((ak V2.heap.size V2).drew));have lY:=ae hby
      clear h hs hby
      go_upto_region 18 with fail;refine aK (.rd 0 (.rd 1 (.rd 2 (.rd 3 (.rd 4 (.rd 5 (.rd 6 (.rd 7 (.rd 8 (.rd 9 (.rd 10 (.rd 11 (.rd 12 (.rd 13 (.rd 14 .fin))))))))))))))) (λw'=>w'.heap[b7]? =some EH∧w'.heap[b8]? =some EI∧By w' (· <wr.heap.size) A2 0 []) (by kernel_rfl) (by kernel_rfl) (λc a d v w h=>by cases d<;>exact h) ⟨zf.out.get (ag _ af),zf.out.get af,lY.out.step (Step.aI ((ak V2.heap.size V2).drew))⟩ ?_
      iterate 15
       refine az (v:= ?_) (by rfl) (by rfl) (λw' hS=> ?_) (λK hK=> ?_);rotate_left
       ·have ha:=aj w' b7 hS.1;have hb:=aj w' b8 hS.2.1;have hcv:=bu (c:=0) hS.2.2;clear hS;go_simp;try with_reducible rfl
       go_simp;refine hK _ ?_;clear hK K
      show wpList _ _ _ _ _ _;simp only[wpList];go_wp2;go_roundw
      case rel=>exact⟨3+1,by decide,rfl,zf⟩
      case measure=>decide
     ·clear hlt;go_wp2_with fail;refine(vy HI.out (by decide) X.Rh).mono ?_;rintro e V2 ⟨v,rfl,hs,h⟩;obtain⟨A2,rfl,hby⟩:=fg hs;have qZ:Hid (IX w p pf [70] (8+4+1) [(b8,EI),(b7,EH)] (SV (4+1)) V2):=ae h;have zf:=ae (qZ.out.below ((ak V2.heap.size V2).drew));have lY:=ae hby
      clear h hs hby
      go_upto_region 18 with fail;refine aK (.rd 0 (.rd 1 (.rd 2 (.rd 3 (.rd 4 (.rd 5 (.rd 6 (.rd 7 (.rd 8 (.rd 9 (.rd 10 (.rd 11 (.rd 12 (.rd 13 (.rd 14 .fin))))))))))))))) (λw'=>w'.heap[b7]? =some EH∧w'.heap[b8]? =some EI∧By w' (· <wr.heap.size) A2 0 []) (by kernel_rfl) (by kernel_rfl) (λc a d v w h=>by cases d<;>exact h) ⟨zf.out.get (ag _ af),zf.out.get af,lY.out.step (Step.aI ((ak V2.heap.size V2).drew))⟩ ?_
      iterate 15
       refine az (v:= ?_) (by rfl) (by rfl) (λw' hS=> ?_) (λK hK=> ?_);rotate_left
       ·have ha:=aj w' b7 hS.1;have hb:=aj w' b8 hS.2.1;have hcv:=bu (c:=0) hS.2.2;clear hS;go_simp;try with_reducible rfl
       go_simp;refine hK _ ?_;clear hK K
      show wpList _ _ _ _ _ _;simp only[wpList];go_wp2;go_roundw
      case rel=>exact⟨4+1,by decide,rfl,zf⟩
      case measure=>decide
    ·obtain rfl:i=5:=(by omega);rw[show(((5:Nat):Int))=5 from rfl];have H13:Hid (IX w p pf [70] 13 [] X.Cb wr):=ae (HI.out.cY (λx hx=>oN hx));have kc:=KC.out;clear HI hlt hi;go_wp2_with fail;refine(ND H13.out (by decide) 1 [46,46,120] (by decide) (by decide) #[.int .u8 46, .int .u8 46, .int .u8 120] rfl X.Ri).mono ?_;rintro e W14 ⟨v14,rfl,hs,h⟩;have H14:=ae h;obtain⟨A14,rfl,hby⟩:=fg hs;have Zc:Hid (SX W14 pf A14 [98,49,120]):=ae (vz hby H13.out);clear hby
     clear hs;clear h H13;go_wp2_with fail;refine(qW H14.out (by decide) (by kernel_rfl) (by kernel_rfl) X.Rj).mono ?_;rintro e W15 ⟨v15,rfl,hs,h,hg⟩;have H15:=ae h;replace Zc:=ae (tO Zc.out hg);clear hg;obtain⟨A15,rfl,hby⟩:=fg hs;have B15:Hid (SX W15 pf A15 [97,49,120]):=ae (vz hby H14.out);clear hby
     clear hs;clear h H14;go_wp2_with fail;refine(qW H15.out (by decide) (by kernel_rfl) (by kernel_rfl) X.Rk).mono ?_;rintro e MN ⟨v16,rfl,hs,h,hg⟩;have XM:=ae h;replace Zc:=ae (tO Zc.out hg);replace B15:=ae (tO B15.out hg);clear hg;obtain⟨A16,rfl,hby⟩:=fg hs;clear hby
     clear hs;clear h H15;have Zd:=bu (c:=[98,49,120].length) Zc.out;simp only[List.length_cons,List.length_nil,Nat.zero_add,Nat.reduceAdd]at Zd;have Ze:=bu (c:=[97,49,120].length) B15.out;simp only[List.length_cons,List.length_nil,Nat.zero_add,Nat.reduceAdd]at Ze;go_wp2_with fail;refine(xu XM.out (by decide) [98,49,119] (by decide) #[.int .u8 98, .int .u8 49, .int .u8 119] rfl X.Rl).mono ?_;rintro e W17 ⟨rfl,h⟩;have H17:=ae h;clear h XM;clear Zd Ze;go_wp2_with fail;refine(zb H17.out (by decide) 1 2 (by decide) [119] (by decide) #[.int .u8 119] rfl X.Rm).mono ?_;rintro e W18 ⟨rfl,h⟩;have H18:=ae h;clear h H17;go_wp2_with fail;refine(qW H18.out (by decide) (by kernel_rfl) (by kernel_rfl) X.Rn).mono ?_;rintro e OS ⟨v19,rfl,hs,h,hg⟩;have H19:=ae h;clear hg;obtain⟨A19,rfl,hby⟩:=fg hs;have B19:Hid (SX OS pf A19 [97,50,119]):=ae (vz hby H18.out);clear hby
     clear hs;clear h H18;go_wp2_with fail;refine(qW H19.out (by decide) (by kernel_rfl) (by kernel_rfl) X.Ro).mono ?_;rintro e W20 ⟨v20,rfl,hs,h,hg⟩;have H20:=ae h;replace B19:=ae (tO B19.out hg);clear hg;obtain⟨A20,rfl,hby⟩:=fg hs;have B20:Hid (SX W20 pf A20 [98,49,119]):=ae (vz hby H19.out);clear hby
     clear hs;clear h H19;have Zf:=bu (c:=[97,50,119].length) B19.out;simp only[List.length_cons,List.length_nil,Nat.zero_add,Nat.reduceAdd]at Zf;have Zg:=bu (c:=[98,49,119].length) B20.out;simp only[List.length_cons,List.length_nil,Nat.zero_add,Nat.reduceAdd]at Zg;go_wp2_with fail;refine(NC H20.out (by decide) [97,50] (by decide) (by decide) #[.int .u8 97, .int .u8 50] rfl X.Rp).mono ?_;rintro e W21 ⟨rfl,h⟩;have H21:=ae h;clear h H20;clear Zf Zg;go_wp2_with fail;refine(ND H21.out (by decide) 0 [97,50] (by decide) (by decide) #[.int .u8 97, .int .u8 50] rfl X.Rq).mono ?_;rintro e Qt ⟨v22,rfl,hs,h⟩;have H22:=ae h;obtain⟨A22,rfl,hby⟩:=fg hs;clear hby
     clear hs;clear h H21;go_wp2_with fail;refine(zb H22.out (by decide) 0 3 (by decide) [98] (by decide) #[.int .u8 98] rfl X.Rs).mono ?_;rintro e W23 ⟨rfl,h⟩;have H23:=ae h;clear h H22;go_wp2_with fail;refine(qW H23.out (by decide) (by kernel_rfl) (by kernel_rfl) X.Rt).mono ?_;rintro e W24 ⟨v24,rfl,hs,h,hg⟩;have H24:=ae h;clear hg;obtain⟨A24,rfl,hby⟩:=fg hs;have B24:Hid (SX W24 pf A24 [97,49,120]):=ae (vz hby H23.out);clear hby
     clear hs;clear h H23;have ac9:=bu (c:=[97,49,120].length) B24.out;simp only[List.length_cons,List.length_nil,Nat.zero_add,Nat.reduceAdd]at ac9;go_wp2_with fail;refine(xu H24.out (by decide) [122,122,122] (by decide) #[.int .u8 122, .int .u8 122, .int .u8 122] rfl X.Ru).mono ?_;rintro e Qu ⟨rfl,h⟩;have H25:=ae h;clear h H24;go_wp2_with fail;refine(zb H25.out (by decide) 2 0 (by decide) [120] (by decide) #[.int .u8 120] rfl X.Rv).mono ?_;rintro e W26 ⟨rfl,h⟩;have H26:=ae h;clear h H25;go_wp2_with fail;refine(QU H26.out (by decide) ac1 rfl).mono ?_;rintro e W27 ⟨rfl,hb⟩;have HB:=ae (H26.out.bel.trans (hb.mono H26.out.bel.size));clear hb;go_wp2;go_ret;exact⟨rfl,HB.out⟩
end Go.Proofs.YtipljcmmokaokaaGreat
