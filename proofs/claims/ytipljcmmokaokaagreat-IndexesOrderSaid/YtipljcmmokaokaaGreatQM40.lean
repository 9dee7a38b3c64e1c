import Derived.Test.YtipljcmmokaokaaGreatQM38
import Derived.Lib.SlBytesConst
set_option linter.unusedVariables false
set_option linter.unusedSimpArgs false
set_option maxHeartbeats 8000000
namespace Go.Proofs.YtipljcmmokaokaaGreat
open Go.RowKit Go.Lib Go.Maps Go.WideMaps Go.Sort
set_option maxRecDepth 100000
namespace X
def OD:M:=M.new [⟨0,2,false⟩,⟨2,1,true⟩] 4
def OE:M:=(OD.open 2 false).1
theorem OG:OD.open 2 false=(OE,[48,48]):=by kernel_rfl
def OH:M:=(OE.close).1
theorem OI:OE.close=(OH,[48,48]):=by kernel_rfl
def Lp:M:=(OH.open 3 false).1
theorem OJ:OH.open 3 false=(Lp,[48,48]):=by kernel_rfl
def Lq:M:=(Lp.write [98,49,120]).1
theorem OL:Lp.write [98,49,120]=(Lq,[48,48]):=by kernel_rfl
def Lr:M:=(Lq.write [97,49,120]).1
theorem OM:Lq.write [97,49,120]=(Lr,[48,50]):=by kernel_rfl
def Ls:M:=(Lr.write [97,50,119]).1
theorem OO:Lr.write [97,50,119]=(Ls,[48,48]):=by kernel_rfl
def Lt:M:=(Ls.write [97,49,122]).1
theorem OP:Ls.write [97,49,122]=(Lt,[50,50]):=by kernel_rfl
def Fm:M:=(Lt.write [97,98]).1
theorem OQ:Lt.write [97,98]=(Fm,[52,52]):=by kernel_rfl
def Lu:M:=(Fm.next).1
theorem OS:Fm.next=(Lu,some [97,49,120],[48,48]):=by kernel_rfl
def Dp:M:=(Lu.next).1
theorem Lv:Lu.next=(Dp,some [97,50,119],[48,48]):=by kernel_rfl
def Dq:M:=(Dp.next).1
theorem Lx:Dp.next=(Dq,some [98,49,120],[48,48]):=by kernel_rfl
def Dr:M:=(Dq.next).1
theorem LA:Dq.next=(Dr,none,[49,48]):=by kernel_rfl
def zZ:M:=(Dr.next).1
theorem LB:Dr.next=(zZ,none,[52,54]):=by kernel_rfl
def Jq:M:=(zZ.get 1 [46,46,120]).1
theorem LC:zZ.get 1 [46,46,120]=(Jq,some [98,49,120],[48,50]):=by kernel_rfl
def Jr:M:=(Jq.next).1
theorem LD:Jq.next=(Jr,some [97,49,120],[48,48]):=by kernel_rfl
def Js:M:=(Jr.next).1
theorem LF:Jr.next=(Js,none,[49,48]):=by kernel_rfl
def Jt:M:=(Js.rewrite [98,49,119]).1
theorem LG:Js.rewrite [98,49,119]=(Jt,[48,50]):=by kernel_rfl
def Ju:M:=(Jt.start 1 2 [119]).1
theorem LH:Jt.start 1 2 [119]=(Ju,[48,48]):=by kernel_rfl
def Jw:M:=(Ju.next).1
theorem LI:Ju.next=(Jw,some [97,50,119],[48,50]):=by kernel_rfl
def Jy:M:=(Jw.next).1
theorem LJ:Jw.next=(Jy,some [98,49,119],[48,48]):=by kernel_rfl
def Jz:M:=(Jy.delete [97,50]).1
theorem LK:Jy.delete [97,50]=(Jz,[48,48]):=by kernel_rfl
def JA:M:=(Jz.get 0 [97,50]).1
theorem LL:Jz.get 0 [97,50]=(JA,none,[50,51]):=by kernel_rfl
def JB:M:=(JA.start 0 3 [98]).1
theorem LM:JA.start 0 3 [98]=(JB,[48,48]):=by kernel_rfl
def JC:M:=(JB.next).1
theorem LN:JB.next=(JC,some [97,49,120],[48,48]):=by kernel_rfl
def JD:M:=(JC.rewrite [122,122,122]).1
theorem LO:JC.rewrite [122,122,122]=(JD,[50,51]):=by kernel_rfl
def RS:M:=(JD.start 2 0 [120]).1
theorem LP:JD.start 2 0 [120]=(RS,[50,51]):=by kernel_rfl
theorem JE (m:M) (h:m.ks=[⟨0,2,false⟩,⟨2,1,true⟩]) (hs:m.size=4) (u:Nat) (hu:u≤20):Bd [70] m.ks m.size u:=by
 rw[h,hs];refine⟨2,by decide,fun i hi=> ?_, ?_⟩
 ·match i,hi with
  |0,_=>decide
  |1,_=>decide
 ·rw[jE];simp only[List.length_cons,List.length_nil];omega
end X
theorem U7:E2 [70]:=⟨by decide,by decide,by decide⟩
section
variable {w0 w : World} {p pf u : Nat} {nm : J.B} {fs : List (Nat × Obj)} {m : X.M}
theorem IX.get (h:IX w0 p pf nm u fs m w) {x:Nat×Obj} (hx:x∈fs):w.heap[x.1]? =some x.2:=by
 obtain⟨L,s,f,g,c,ok,h⟩:=h;exact h.at_.get (af _ (af _ hx))
theorem z6 {w:World} (b:J.B) (hcap:(⟨b.toArray⟩:ByteArray).size≤grownCap w (⟨b.toArray⟩:ByteArray).size 0 5):
  Sl (w.drew.alloc (.cells (bytesRow ⟨b.toArray⟩ (grownCap w (⟨b.toArray⟩:ByteArray).size 0 5)) 5 ((bytesRow ⟨b.toArray⟩ (grownCap w (⟨b.toArray⟩:ByteArray).size 0 5)).size,(bytesRow ⟨b.toArray⟩ (grownCap w (⟨b.toArray⟩:ByteArray).size 0 5)).size+1))) bL (.slice (some ⟨w.heap.size,0,none⟩) (⟨b.toArray⟩:ByteArray).size (grownCap w (⟨b.toArray⟩:ByteArray).size 0 5)) b:=by
 have hsz:(⟨b.toArray⟩:ByteArray).size=b.length:=by simp[ByteArray.size]
 rw[hsz]at hcap⊢;have hl:w.heap.size<(w.drew.alloc (.cells (bytesRow ⟨b.toArray⟩ (grownCap w b.length 0 5)) 5 ((bytesRow ⟨b.toArray⟩ (grownCap w b.length 0 5)).size,(bytesRow ⟨b.toArray⟩ (grownCap w b.length 0 5)).size+1))).heap.size:=by
  show w.heap.size<(w.heap.push _).size;simp
 refine .inr ⟨w.heap.size,0,_,rfl,hcap,hl,rfl,fun _=>⟨w.heap.size,0,rfl,hl,fun h=>h,fun j hj=> ?_⟩⟩;rw[Nat.zero_add,cell_of_row _ w.heap.size j _ _ _ (heap_alloc_new w.drew _)];have:=bytesRow_at ⟨b.toArray⟩ (grownCap w b.length 0 5) j (by simpa using hj);rw[this];simp[u8]
theorem qJ (h:IX w0 p pf nm u fs m w) (b:J.B) (hb:b≠[]):∃c w' o,(convert 9 40 (.string ⟨b.toArray⟩)).run Tryz.prog w= .ok (.slice (some ⟨w.heap.size,0,none⟩) b.length c) w'∧IX w0 p pf nm u ((w.heap.size,o)::fs) m w'∧Src w0 p ((w.heap.size,o)::fs) (.slice (some ⟨w.heap.size,0,none⟩) b.length c) b:=by
 have hrun:=run_bytes_of_string (P:=Tryz.prog) w 9 40 5 ⟨b.toArray⟩ Tryz.underlying9 Tryz.underlying40 Tryz.underlying5;have hsz:(⟨b.toArray⟩:ByteArray).size=b.length:=by simp[ByteArray.size]
 have hcap:(⟨b.toArray⟩:ByteArray).size≤grownCap w (⟨b.toArray⟩:ByteArray).size 0 5:=by simp[grownCap,Question.cut]
 have kz:=z6 (w:=w) b hcap;have hm:=(h.below ((ai _ w).drew)).more (.cells (bytesRow ⟨b.toArray⟩ (grownCap w (⟨b.toArray⟩:ByteArray).size 0 5)) 5 ((bytesRow ⟨b.toArray⟩ (grownCap w (⟨b.toArray⟩:ByteArray).size 0 5)).size,(bytesRow ⟨b.toArray⟩ (grownCap w (⟨b.toArray⟩:ByteArray).size 0 5)).size+1));have hb2:=Dj (w0:=w0) (p:=p) kz hb (heap_alloc_new w.drew _) (ae (l:=fs));rw[hsz]at hrun hm hb2;exact⟨_,_,_,hrun,hm,hb2⟩
theorem iY {w0 w:World} {v:Value} {l:J.B} (h:cE w (· <w0.heap.size) v l):∃A,v= .slice A l.length l.length∧By w (· <w0.heap.size) A l.length l:=by
 obtain⟨A,e⟩:=h.dg;subst e;refine⟨A,rfl, ?_⟩;obtain⟨A',c',e,_,hby⟩:=h.sl.by
 injection e with e1 e2 e3;rw[e1];exact hby
end
abbrev sI:Obj:=(.cells #[.string ⟨#[98,49,120]⟩, .string ⟨#[97,49,120]⟩, .string ⟨#[97,50,119]⟩, .string ⟨#[97,49,122]⟩, .string ⟨#[97,98]⟩] 9 (0,0):Obj)
abbrev sJ:Obj:=(.cells #[.string ⟨#[48,48]⟩, .string ⟨#[48,50]⟩, .string ⟨#[48,48]⟩, .string ⟨#[50,50]⟩, .string ⟨#[52,52]⟩] 9 (0,0):Obj)
abbrev CE:Obj:=(.cells #[.string ⟨#[97,49,120]⟩, .string ⟨#[97,50,119]⟩, .string ⟨#[98,49,120]⟩, .string ⟨#[]⟩, .string ⟨#[]⟩] 9 (0,0):Obj)
abbrev CF:Obj:=(.cells #[.string ⟨#[48,48]⟩, .string ⟨#[48,48]⟩, .string ⟨#[48,48]⟩, .string ⟨#[49,48]⟩, .string ⟨#[52,54]⟩] 9 (0,0):Obj)
def MM:Nat→X.M
 |0=>X.Lp
 |1=>X.Lq
 |2=>X.Lr
 |3=>X.Ls
 |4=>X.Lt
 |_=>X.Fm
def MN:Nat→X.M
 |0=>X.Fm
 |1=>X.Lu
 |2=>X.Dp
 |3=>X.Dq
 |4=>X.Dr
 |_=>X.zZ
def MO (w:World) (pf:Nat) (A:Option Addr) (l:J.B):Prop:=By w (· =pf) A l.length l
theorem td {w w':World} {pf:Nat} {A:Option Addr} {l:J.B} (h:MO w pf A l) (hg:w.grownBy w' (some pf)):MO w' pf A l:=
 h.step (⟨hg.os,hg.tape,hg.output,hg.size,fun k hk hn=>hg.block k hk (fun e=>hn (by injection e)),fun k hk hm=>hm⟩:Step _ (· =pf) _ _)
theorem uR {w0 w w':World} {p pf u:Nat} {nm:J.B} {fs:List (Nat×Obj)} {m:X.M} {A:Option Addr} {l:J.B} (h:By w' (· <w.heap.size) A l.length l) (hx:IX w0 p pf nm u fs m w):MO w' pf A l:=by
 obtain⟨L,s,f,g,c,ok,hx⟩:=hx;have h1:pf<w.heap.size:=(ah (hx.at_.get ae)).1;refine⟨rfl,fun hn=> ?_⟩;obtain⟨b,o,e,h2,h3,h4⟩:=h.2 hn;exact⟨b,o,e,h2,fun hh=>h3 (by rw[hh];exact h1),h4⟩
theorem uS (w:World):
  Calls Tryz.prog 8 #[] w fun e w'=>e= .returned (.bool true)∧Below w.heap.size w w':=by
 have kc:=fun(w:World) (C:Array Value) (n c:Nat)=>Lib.run_convert_bytes_const (P:=Tryz.prog) w 40 5 C n c Tryz.underlying40 Tryz.underlying5;have KC:=aa kc;clear kc;go_enter Tryz.func8,Tryz.ntmps8;go_wp2_with fail;refine(GP w _ (ai _ _)).mono ?_;rintro e W ⟨p,rfl,h⟩;have H:=aa h;clear h;go_wp2_with fail;have Xq:Hid (sw (W.alloc (.cells #[.int .i64 0, .int .i64 2, .bool false, .int .i64 2, .int .i64 1, .bool true] 66)) W.heap.size 0 2 (fun i=>if i=0 then 0 else 2) (fun i=>if i=0 then 2 else 1) (fun i=>if i=0 then false else true)):=aa (by
  have hr:=heap_alloc_new W (.cells #[.int .i64 0, .int .i64 2, .bool false, .int .i64 2, .int .i64 1, .bool true] 66);refine⟨(ah hr).1,fun i hi=> ?_,fun i hi=> ?_,fun i hi=> ?_⟩
  all_goals
   rw[cell_of_row _ W.heap.size _ _ _ _ hr]
   match i,hi with
   |0,_=>rfl
   |1,_=>rfl)
 refine(IY (H.out.below ((ai _ W).alloc (aj _) _)) [70] 4 W.heap.size 0 2 2 _ _ _ Xq.out (by kernel_rfl)).mono ?_;rintro e W0 ⟨pf,rfl,h,_⟩;have H0:Hid (IX w p pf [70] 0 [] X.OD W0):=aa (Jc h);clear h H Xq;go_wp2_with fail;refine(CA H0.out (by decide) (X.JE _ rfl rfl _ (by decide)) 2 false X.OG).mono ?_;rintro e W1 ⟨rfl,h⟩;have H1:=aa h;clear h H0;go_wp2_with fail;refine(Dk H1.out X.OI).mono ?_;rintro e W2 ⟨rfl,h⟩;have H2:=aa h;clear h H1;go_wp2_with fail;refine(CA H2.out (by decide) (X.JE _ rfl rfl _ (by decide)) 3 false X.OJ).mono ?_;rintro e W3 ⟨rfl,h⟩;have HS:Hid (IX w p pf [70] 3 [(W3.heap.size+1,sJ),(W3.heap.size,sI)] (MM 0) ((W3.alloc sI).alloc sJ)):=by
  have h1:=(h.more sI).more sJ;rw[World.size_alloc]at h1;exact aa h1
 clear h H2;generalize jb:W3.heap.size+1=b5 at HS;go_upto_region 7 with fail;generalize W3.heap.size=b4 at HS jb⊢;refine aG (fun Y=>IX w p pf [70] 3 [(b5,sJ),(b4,sI)] (MM 0) Y) HS.out ?_;rintro W4 h;have H4:=aa h;clear h HS jb;go_wp2_with fail;go_loopw [6] (fun u W=>∃i:Nat,i≤5∧u= .int .i64 i∧Hid (IX w p pf [70] (3+i) [(b5,sJ),(b4,sI)] (MM i) W)) (fun u _=>5 - (intOf u).toNat)
 case atStart=>exact⟨0,by decide,rfl,H4⟩
 case round=>
  clear H4;obtain⟨i,hi,rfl,HI⟩:=hrel;by_cases hlt:i<5
  ·clear hi;obtain rfl|rfl|rfl|rfl|rfl:i=0∨i=1∨i=2∨i=3∨i=4:=by omega
   ·clear hlt;go_upto_region 10 with fail;have ib:=aa (HI.out.below ((ai wr.heap.size wr).drew));refine aA 11 (.rd 0 (.rd 1 (.rd 2 (.rd 3 (.rd 4 (.rd 7 (.rd 8 (.rd 9 (.rd 10 (.wr 5 (.wr 6 .fin))))))))))) (fun w'=>w'.heap[b4]? =some sI∧w'.heap[b5]? =some sJ) (by kernel_rfl) (by kernel_rfl) (fun c a d v w h=>by cases d<;>exact h) ⟨ib.out.get (af _ ae),ib.out.get ae⟩ ?_;generalize wr.drew=V0 at ib⊢
    iterate 9
     refine aw (v:= ?_) (by rfl) (by rfl) (fun w' hS=> ?_) (fun K hK=> ?_);rotate_left
     ·have ha:=fun j=>ag w' b4 j _ _ _ hS.1;have hb:=fun j=>ag w' b5 j _ _ _ hS.2;clear hS;go_simp;try with_reducible rfl
     go_simp;refine hK _ ?_;clear hK K
    refine wpPm_write (by rfl) (fun K hK=> ?_);go_simp;obtain⟨c2,V1,o2,hrun,rA,qK⟩:=qJ ib.out [98,49,120] (by decide);rw[hrun];have rH:=aa rA;have pz:=aa qK;clear rA qK hrun;go_simp;refine hK.out _ _ (fun w'=>w'.heap[b4]? =some sI∧w'.heap[b5]? =some sJ) (fun _ h=>h) ⟨rH.out.get (af _ (af _ ae)),rH.out.get (af _ ae)⟩ ?_;clear hK K;refine wpPm_write (by rfl) (fun K hK=> ?_);go_simp;refine(mC rH.out (by decide) _ _ pz.out X.OL).mono ?_;rintro e V2 ⟨rfl,h⟩;have nH:Hid (IX w p pf [70] (3+0+1) [(b5,sJ),(b4,sI)] (MM (0+1)) V2):=aa (h.gZ (fun x hx=>af _ hx));refine hK.out _ _ (fun w'=>w'.heap[b4]? =some sI∧w'.heap[b5]? =some sJ) (fun _ h=>h) ⟨nH.out.get (af _ ae),nH.out.get ae⟩ ?_;clear hK K h rH pz ib;show wpList _ _ _ _ _ _;go_wp2;go_roundw
    case rel=>exact⟨0+1,by decide,rfl,nH⟩
    case measure=>decide
   ·clear hlt;go_upto_region 10 with fail;have ib:=aa (HI.out.below ((ai wr.heap.size wr).drew));refine aA 11 (.rd 0 (.rd 1 (.rd 2 (.rd 3 (.rd 4 (.rd 7 (.rd 8 (.rd 9 (.rd 10 (.wr 5 (.wr 6 .fin))))))))))) (fun w'=>w'.heap[b4]? =some sI∧w'.heap[b5]? =some sJ) (by kernel_rfl) (by kernel_rfl) (fun c a d v w h=>by cases d<;>exact h) ⟨ib.out.get (af _ ae),ib.out.get ae⟩ ?_;generalize wr.drew=V0 at ib⊢
    iterate 9
     refine aw (v:= ?_) (by rfl) (by rfl) (fun w' hS=> ?_) (fun K hK=> ?_);rotate_left
     ·have ha:=fun j=>ag w' b4 j _ _ _ hS.1;have hb:=fun j=>ag w' b5 j _ _ _ hS.2;clear hS;go_simp;try with_reducible rfl
     go_simp;refine hK _ ?_;clear hK K
    refine wpPm_write (by rfl) (fun K hK=> ?_);go_simp;obtain⟨c2,V1,o2,hrun,rA,qK⟩:=qJ ib.out [97,49,120] (by decide);rw[hrun];have rH:=aa rA;have pz:=aa qK;clear rA qK hrun;go_simp;refine hK.out _ _ (fun w'=>w'.heap[b4]? =some sI∧w'.heap[b5]? =some sJ) (fun _ h=>h) ⟨rH.out.get (af _ (af _ ae)),rH.out.get (af _ ae)⟩ ?_;clear hK K;refine wpPm_write (by rfl) (fun K hK=> ?_);go_simp;refine(mC rH.out (by decide) _ _ pz.out X.OM).mono ?_;rintro e V2 ⟨rfl,h⟩;have nH:Hid (IX w p pf [70] (3+1+1) [(b5,sJ),(b4,sI)] (MM (1+1)) V2):=aa (h.gZ (fun x hx=>af _ hx));refine hK.out _ _ (fun w'=>w'.heap[b4]? =some sI∧w'.heap[b5]? =some sJ) (fun _ h=>h) ⟨nH.out.get (af _ ae),nH.out.get ae⟩ ?_;clear hK K h rH pz ib;show wpList _ _ _ _ _ _;go_wp2;go_roundw
    case rel=>exact⟨1+1,by decide,rfl,nH⟩
    case measure=>decide
   ·clear hlt;go_upto_region 10 with fail;have ib:=aa (HI.out.below ((ai wr.heap.size wr).drew));refine aA 11 (.rd 0 (.rd 1 (.rd 2 (.rd 3 (.rd 4 (.rd 7 (.rd 8 (.rd 9 (.rd 10 (.wr 5 (.wr 6 .fin))))))))))) (fun w'=>w'.heap[b4]? =some sI∧w'.heap[b5]? =some sJ) (by kernel_rfl) (by kernel_rfl) (fun c a d v w h=>by cases d<;>exact h) ⟨ib.out.get (af _ ae),ib.out.get ae⟩ ?_;generalize wr.drew=V0 at ib⊢
    iterate 9
     refine aw (v:= ?_) (by rfl) (by rfl) (fun w' hS=> ?_) (fun K hK=> ?_);rotate_left
     ·have ha:=fun j=>ag w' b4 j _ _ _ hS.1;have hb:=fun j=>ag w' b5 j _ _ _ hS.2;clear hS;go_simp;try with_reducible rfl
     go_simp;refine hK _ ?_;clear hK K
    refine wpPm_write (by rfl) (fun K hK=> ?_);go_simp;obtain⟨c2,V1,o2,hrun,rA,qK⟩:=qJ ib.out [97,50,119] (by decide);rw[hrun];have rH:=aa rA;have pz:=aa qK;clear rA qK hrun;go_simp;refine hK.out _ _ (fun w'=>w'.heap[b4]? =some sI∧w'.heap[b5]? =some sJ) (fun _ h=>h) ⟨rH.out.get (af _ (af _ ae)),rH.out.get (af _ ae)⟩ ?_;clear hK K;refine wpPm_write (by rfl) (fun K hK=> ?_);go_simp;refine(mC rH.out (by decide) _ _ pz.out X.OO).mono ?_;rintro e V2 ⟨rfl,h⟩;have nH:Hid (IX w p pf [70] (3+2+1) [(b5,sJ),(b4,sI)] (MM (2+1)) V2):=aa (h.gZ (fun x hx=>af _ hx));refine hK.out _ _ (fun w'=>w'.heap[b4]? =some sI∧w'.heap[b5]? =some sJ) (fun _ h=>h) ⟨nH.out.get (af _ ae),nH.out.get ae⟩ ?_;clear hK K h rH pz ib;show wpList _ _ _ _ _ _;go_wp2;go_roundw
    case rel=>exact⟨2+1,by decide,rfl,nH⟩
    case measure=>decide
   ·clear hlt;go_upto_region 10 with fail;have ib:=aa (HI.out.below ((ai wr.heap.size wr).drew));refine aA 11 (.rd 0 (.rd 1 (.rd 2 (.rd 3 (.rd 4 (.rd 7 (.rd 8 (.rd 9 (.rd 10 (.wr 5 (.wr 6 .fin))))))))))) (fun w'=>w'.heap[b4]? =some sI∧w'.heap[b5]? =some sJ) (by kernel_rfl) (by kernel_rfl) (fun c a d v w h=>by cases d<;>exact h) ⟨ib.out.get (af _ ae),ib.out.get ae⟩ ?_;generalize wr.drew=V0 at ib⊢
    iterate 9
     refine aw (v:= ?_) (by rfl) (by rfl) (fun w' hS=> ?_) (fun K hK=> ?_);rotate_left
     ·have ha:=fun j=>ag w' b4 j _ _ _ hS.1;have hb:=fun j=>ag w' b5 j _ _ _ hS.2;clear hS;go_simp;try with_reducible rfl
     go_simp;refine hK _ ?_;clear hK K
    refine wpPm_write (by rfl) (fun K hK=> ?_);go_simp;obtain⟨c2,V1,o2,hrun,rA,qK⟩:=qJ ib.out [97,49,122] (by decide);rw[hrun];have rH:=aa rA;have pz:=aa qK;clear rA qK hrun;go_simp;refine hK.out _ _ (fun w'=>w'.heap[b4]? =some sI∧w'.heap[b5]? =some sJ) (fun _ h=>h) ⟨rH.out.get (af _ (af _ ae)),rH.out.get (af _ ae)⟩ ?_;clear hK K;refine wpPm_write (by rfl) (fun K hK=> ?_);go_simp;refine(mC rH.out (by decide) _ _ pz.out X.OP).mono ?_;rintro e V2 ⟨rfl,h⟩;have nH:Hid (IX w p pf [70] (3+3+1) [(b5,sJ),(b4,sI)] (MM (3+1)) V2):=aa (h.gZ (fun x hx=>af _ hx));refine hK.out _ _ (fun w'=>w'.heap[b4]? =some sI∧w'.heap[b5]? =some sJ) (fun _ h=>h) ⟨nH.out.get (af _ ae),nH.out.get ae⟩ ?_;clear hK K h rH pz ib;show wpList _ _ _ _ _ _;go_wp2;go_roundw
    case rel=>exact⟨3+1,by decide,rfl,nH⟩
    case measure=>decide
   ·clear hlt;go_upto_region 10 with fail;have ib:=aa (HI.out.below ((ai wr.heap.size wr).drew));refine aA 11 (.rd 0 (.rd 1 (.rd 2 (.rd 3 (.rd 4 (.rd 7 (.rd 8 (.rd 9 (.rd 10 (.wr 5 (.wr 6 .fin))))))))))) (fun w'=>w'.heap[b4]? =some sI∧w'.heap[b5]? =some sJ) (by kernel_rfl) (by kernel_rfl) (fun c a d v w h=>by cases d<;>exact h) ⟨ib.out.get (af _ ae),ib.out.get ae⟩ ?_;generalize wr.drew=V0 at ib⊢
    iterate 9
     refine aw (v:= ?_) (by rfl) (by rfl) (fun w' hS=> ?_) (fun K hK=> ?_);rotate_left
     ·have ha:=fun j=>ag w' b4 j _ _ _ hS.1;have hb:=fun j=>ag w' b5 j _ _ _ hS.2;clear hS;go_simp;try with_reducible rfl
     go_simp;refine hK _ ?_;clear hK K
    refine wpPm_write (by rfl) (fun K hK=> ?_);go_simp;obtain⟨c2,V1,o2,hrun,rA,qK⟩:=qJ ib.out [97,98] (by decide);rw[hrun];have rH:=aa rA;have pz:=aa qK;clear rA qK hrun;go_simp;refine hK.out _ _ (fun w'=>w'.heap[b4]? =some sI∧w'.heap[b5]? =some sJ) (fun _ h=>h) ⟨rH.out.get (af _ (af _ ae)),rH.out.get (af _ ae)⟩ ?_;clear hK K;refine wpPm_write (by rfl) (fun K hK=> ?_);go_simp;refine(mC rH.out (by decide) _ _ pz.out X.OQ).mono ?_;rintro e V2 ⟨rfl,h⟩;have nH:Hid (IX w p pf [70] (3+4+1) [(b5,sJ),(b4,sI)] (MM (4+1)) V2):=aa (h.gZ (fun x hx=>af _ hx));refine hK.out _ _ (fun w'=>w'.heap[b4]? =some sI∧w'.heap[b5]? =some sJ) (fun _ h=>h) ⟨nH.out.get (af _ ae),nH.out.get ae⟩ ?_;clear hK K h rH pz ib;show wpList _ _ _ _ _ _;go_wp2;go_roundw
    case rel=>exact⟨4+1,by decide,rfl,nH⟩
    case measure=>decide
  ·obtain rfl:i=5:=(by omega);rw[show(((5:Nat):Int))=5 from rfl];have Rq:Hid (IX w p pf [70] 8 [] X.Fm wr):=aa (HI.out.gZ (fun x hx=>oQ hx));clear HI hlt hi;have pj:Hid (IX w p pf [70] 8 [(wr.heap.size+1,CF),(wr.heap.size,CE)] (MN 0) ((wr.alloc CE).alloc CF)):=by
    have h1:=(Rq.out.more CE).more CF;rw[World.size_alloc]at h1;exact aa h1
   clear Rq;generalize s8:wr.heap.size+1=b8 at pj;go_upto_region 14 with fail;generalize wr.heap.size=b7 at pj s8⊢;refine aG (fun Y=>IX w p pf [70] 8 [(b8,CF),(b7,CE)] (MN 0) Y) pj.out ?_;rintro W5 h;have H5:=aa h;clear h pj s8;go_wp2_with fail;go_loopw [9] (fun u W=>∃i:Nat,i≤5∧u= .int .i64 i∧Hid (IX w p pf [70] (8+i) [(b8,CF),(b7,CE)] (MN i) W)) (fun u _=>5 - (intOf u).toNat)
   case atStart=>exact⟨0,by decide,rfl,H5⟩
   case round=>
    clear H5;obtain⟨i,hi,rfl,HI⟩:=hrel;by_cases hlt:i<5
    ·clear hi;obtain rfl|rfl|rfl|rfl|rfl:i=0∨i=1∨i=2∨i=3∨i=4:=by omega
     ·clear hlt;go_wp2_with fail;refine(pN HI.out (by decide) X.OS).mono ?_;rintro e V2 ⟨v,rfl,hs,h⟩;obtain⟨A2,rfl,hby⟩:=iY hs;have nH:Hid (IX w p pf [70] (8+0+1) [(b8,CF),(b7,CE)] (MN (0+1)) V2):=aa h;have xR:=aa (nH.out.below ((ai V2.heap.size V2).drew));have nO:=aa hby
      clear h hs hby
      go_upto_region 18 with fail;refine aL (.rd 0 (.rd 1 (.rd 2 (.rd 3 (.rd 4 (.rd 5 (.rd 6 (.rd 7 (.rd 8 (.rd 9 (.rd 10 (.rd 11 (.rd 12 (.rd 13 (.rd 14 .fin))))))))))))))) (fun w'=>w'.heap[b7]? =some CE∧w'.heap[b8]? =some CF∧By w' (· <wr.heap.size) A2 3 [97,49,120]) (by kernel_rfl) (by kernel_rfl) (fun c a d v w h=>by cases d<;>exact h) ⟨xR.out.get (af _ ae),xR.out.get ae,nO.out.step (Step.aH ((ai V2.heap.size V2).drew))⟩ ?_
      iterate 15
       refine aw (v:= ?_) (by rfl) (by rfl) (fun w' hS=> ?_) (fun K hK=> ?_);rotate_left
       ·have ha:=fun j=>ag w' b7 j _ _ _ hS.1;have hb:=fun j=>ag w' b8 j _ _ _ hS.2.1;have hcv:=bN (c:=3) hS.2.2;clear hS;go_simp;try with_reducible rfl
       go_simp;refine hK _ ?_;clear hK K
      show wpList _ _ _ _ _ _;simp only[wpList];go_wp2;go_roundw
      case rel=>exact⟨0+1,by decide,rfl,xR⟩
      case measure=>decide
     ·clear hlt;go_wp2_with fail;refine(pN HI.out (by decide) X.Lv).mono ?_;rintro e V2 ⟨v,rfl,hs,h⟩;obtain⟨A2,rfl,hby⟩:=iY hs;have nH:Hid (IX w p pf [70] (8+1+1) [(b8,CF),(b7,CE)] (MN (1+1)) V2):=aa h;have xR:=aa (nH.out.below ((ai V2.heap.size V2).drew));have nO:=aa hby
      clear h hs hby
      go_upto_region 18 with fail;refine aL (.rd 0 (.rd 1 (.rd 2 (.rd 3 (.rd 4 (.rd 5 (.rd 6 (.rd 7 (.rd 8 (.rd 9 (.rd 10 (.rd 11 (.rd 12 (.rd 13 (.rd 14 .fin))))))))))))))) (fun w'=>w'.heap[b7]? =some CE∧w'.heap[b8]? =some CF∧By w' (· <wr.heap.size) A2 3 [97,50,119]) (by kernel_rfl) (by kernel_rfl) (fun c a d v w h=>by cases d<;>exact h) ⟨xR.out.get (af _ ae),xR.out.get ae,nO.out.step (Step.aH ((ai V2.heap.size V2).drew))⟩ ?_
      iterate 15
       refine aw (v:= ?_) (by rfl) (by rfl) (fun w' hS=> ?_) (fun K hK=> ?_);rotate_left
       ·have ha:=fun j=>ag w' b7 j _ _ _ hS.1;have hb:=fun j=>ag w' b8 j _ _ _ hS.2.1;have hcv:=bN (c:=3) hS.2.2;clear hS;go_simp;try with_reducible rfl
       go_simp;refine hK _ ?_;clear hK K
      show wpList _ _ _ _ _ _;simp only[wpList];go_wp2;go_roundw
      case rel=>exact⟨1+1,by decide,rfl,xR⟩
      case measure=>decide
     ·clear hlt;go_wp2_with fail;refine(pN HI.out (by decide) X.Lx).mono ?_;rintro e V2 ⟨v,rfl,hs,h⟩;obtain⟨A2,rfl,hby⟩:=iY hs;have nH:Hid (IX w p pf [70] (8+2+1) [(b8,CF),(b7,CE)] (MN (2+1)) V2):=aa h;have xR:=aa (nH.out.below ((ai V2.heap.size V2).drew));have nO:=aa hby
      clear h hs hby
      go_upto_region 18 with fail;refine aL (.rd 0 (.rd 1 (.rd 2 (.rd 3 (.rd 4 (.rd 5 (.rd 6 (.rd 7 (.rd 8 (.rd 9 (.rd 10 (.rd 11 (.rd 12 (.rd 13 (.rd 14 .fin))))))))))))))) (fun w'=>w'.heap[b7]? =some CE∧w'.heap[b8]? =some CF∧By w' (· <wr.heap.size) A2 3 [98,49,120]) (by kernel_rfl) (by kernel_rfl) (fun c a d v w h=>by cases d<;>exact h) ⟨xR.out.get (af _ ae),xR.out.get ae,nO.out.step (Step.aH ((ai V2.heap.size V2).drew))⟩ ?_
      iterate 15
       refine aw (v:= ?_) (by rfl) (by rfl) (fun w' hS=> ?_) (fun K hK=> ?_);rotate_left
       ·have ha:=fun j=>ag w' b7 j _ _ _ hS.1;have hb:=fun j=>ag w' b8 j _ _ _ hS.2.1;have hcv:=bN (c:=3) hS.2.2;clear hS;go_simp;try with_reducible rfl
       go_simp;refine hK _ ?_;clear hK K
      show wpList _ _ _ _ _ _;simp only[wpList];go_wp2;go_roundw
      case rel=>exact⟨2+1,by decide,rfl,xR⟩
      case measure=>decide
     ·clear hlt;go_wp2_with fail;refine(pN HI.out (by decide) X.LA).mono ?_;rintro e V2 ⟨v,rfl,hs,h⟩;obtain⟨A2,rfl,hby⟩:=iY hs;have nH:Hid (IX w p pf [70] (8+3+1) [(b8,CF),(b7,CE)] (MN (3+1)) V2):=aa h;have xR:=aa (nH.out.below ((ai V2.heap.size V2).drew));have nO:=aa hby
      clear h hs hby
      go_upto_region 18 with fail;refine aL (.rd 0 (.rd 1 (.rd 2 (.rd 3 (.rd 4 (.rd 5 (.rd 6 (.rd 7 (.rd 8 (.rd 9 (.rd 10 (.rd 11 (.rd 12 (.rd 13 (.rd 14 .fin))))))))))))))) (fun w'=>w'.heap[b7]? =some CE∧w'.heap[b8]? =some CF∧By w' (· <wr.heap.size) A2 0 []) (by kernel_rfl) (by kernel_rfl) (fun c a d v w h=>by cases d<;>exact h) ⟨xR.out.get (af _ ae),xR.out.get ae,nO.out.step (Step.aH ((ai V2.heap.size V2).drew))⟩ ?_
      iterate 15
       refine aw (v:= ?_) (by rfl) (by rfl) (fun w' hS=> ?_) (fun K hK=> ?_);rotate_left
       ·have ha:=fun j=>ag w' b7 j _ _ _ hS.1;have hb:=fun j=>ag w' b8 j _ _ _ hS.2.1;have hcv:=bN (c:=0) hS.2.2;clear hS;go_simp;try with_reducible rfl
       go_simp;refine hK _ ?_;clear hK K
      show wpList _ _ _ _ _ _;simp only[wpList];go_wp2;go_roundw
      case rel=>exact⟨3+1,by decide,rfl,xR⟩
      case measure=>decide
     ·clear hlt;go_wp2_with fail;refine(pN HI.out (by decide) X.LB).mono ?_;rintro e V2 ⟨v,rfl,hs,h⟩;obtain⟨A2,rfl,hby⟩:=iY hs;have nH:Hid (IX w p pf [70] (8+4+1) [(b8,CF),(b7,CE)] (MN (4+1)) V2):=aa h;have xR:=aa (nH.out.below ((ai V2.heap.size V2).drew));have nO:=aa hby
      clear h hs hby
      go_upto_region 18 with fail;refine aL (.rd 0 (.rd 1 (.rd 2 (.rd 3 (.rd 4 (.rd 5 (.rd 6 (.rd 7 (.rd 8 (.rd 9 (.rd 10 (.rd 11 (.rd 12 (.rd 13 (.rd 14 .fin))))))))))))))) (fun w'=>w'.heap[b7]? =some CE∧w'.heap[b8]? =some CF∧By w' (· <wr.heap.size) A2 0 []) (by kernel_rfl) (by kernel_rfl) (fun c a d v w h=>by cases d<;>exact h) ⟨xR.out.get (af _ ae),xR.out.get ae,nO.out.step (Step.aH ((ai V2.heap.size V2).drew))⟩ ?_
      iterate 15
       refine aw (v:= ?_) (by rfl) (by rfl) (fun w' hS=> ?_) (fun K hK=> ?_);rotate_left
       ·have ha:=fun j=>ag w' b7 j _ _ _ hS.1;have hb:=fun j=>ag w' b8 j _ _ _ hS.2.1;have hcv:=bN (c:=0) hS.2.2;clear hS;go_simp;try with_reducible rfl
       go_simp;refine hK _ ?_;clear hK K
      show wpList _ _ _ _ _ _;simp only[wpList];go_wp2;go_roundw
      case rel=>exact⟨4+1,by decide,rfl,xR⟩
      case measure=>decide
    ·obtain rfl:i=5:=(by omega);rw[show(((5:Nat):Int))=5 from rfl];have U9:Hid (IX w p pf [70] 13 [] X.zZ wr):=aa (HI.out.gZ (fun x hx=>oQ hx));have kc:=KC.out;clear HI hlt hi;go_wp2_with fail;refine(Jf U9.out (by decide) 1 [46,46,120] (by decide) (by decide) #[.int .u8 46, .int .u8 46, .int .u8 120] rfl X.LC).mono ?_;rintro e Zf ⟨v14,rfl,hs,h⟩;have Va:=aa h;obtain⟨Zg,rfl,hby⟩:=iY hs;have RT:Hid (MO Zf pf Zg [98,49,120]):=aa (uR hby U9.out);clear hby
     clear hs;clear h U9;go_wp2_with fail;refine(qI Va.out (by decide) (by kernel_rfl) (by kernel_rfl) X.LD).mono ?_;rintro e Zh ⟨v15,rfl,hs,h,hg⟩;have Xr:=aa h;replace RT:=aa (td RT.out hg);clear hg;obtain⟨Zi,rfl,hby⟩:=iY hs;have Vb:Hid (MO Zh pf Zi [97,49,120]):=aa (uR hby Va.out);clear hby
     clear hs;clear h Va;go_wp2_with fail;refine(qI Xr.out (by decide) (by kernel_rfl) (by kernel_rfl) X.LF).mono ?_;rintro e s5 ⟨v16,rfl,hs,h,hg⟩;have QF:=aa h;replace RT:=aa (td RT.out hg);replace Vb:=aa (td Vb.out hg);clear hg;obtain⟨ZX,rfl,hby⟩:=iY hs;clear hby
     clear hs;clear h Xr;have RU:=bN (c:=[98,49,120].length) RT.out;simp only[List.length_cons,List.length_nil,Nat.zero_add,Nat.reduceAdd]at RU;have RV:=bN (c:=[97,49,120].length) Vb.out;simp only[List.length_cons,List.length_nil,Nat.zero_add,Nat.reduceAdd]at RV;go_wp2_with fail;refine(wF QF.out (by decide) [98,49,119] (by decide) #[.int .u8 98, .int .u8 49, .int .u8 119] rfl X.LG).mono ?_;rintro e ZY ⟨rfl,h⟩;have Xs:=aa h;clear h QF;clear RU RV;go_wp2_with fail;refine(xM Xs.out (by decide) 1 2 (by decide) [119] (by decide) #[.int .u8 119] rfl X.LH).mono ?_;rintro e ZZ ⟨rfl,h⟩;have Vc:=aa h;clear h Xs;go_wp2_with fail;refine(qI Vc.out (by decide) (by kernel_rfl) (by kernel_rfl) X.LI).mono ?_;rintro e sF ⟨v19,rfl,hs,h,hg⟩;have Vd:=aa h;clear hg;obtain⟨Zj,rfl,hby⟩:=iY hs;have Ve:Hid (MO sF pf Zj [97,50,119]):=aa (uR hby Vc.out);clear hby
     clear hs;clear h Vc;go_wp2_with fail;refine(qI Vd.out (by decide) (by kernel_rfl) (by kernel_rfl) X.LJ).mono ?_;rintro e Zk ⟨v20,rfl,hs,h,hg⟩;have Xt:=aa h;replace Ve:=aa (td Ve.out hg);clear hg;obtain⟨Zl,rfl,hby⟩:=iY hs;have Zm:Hid (MO Zk pf Zl [98,49,119]):=aa (uR hby Vd.out);clear hby
     clear hs;clear h Vd;have RX:=bN (c:=[97,50,119].length) Ve.out;simp only[List.length_cons,List.length_nil,Nat.zero_add,Nat.reduceAdd]at RX;have RY:=bN (c:=[98,49,119].length) Zm.out;simp only[List.length_cons,List.length_nil,Nat.zero_add,Nat.reduceAdd]at RY;go_wp2_with fail;refine(Je Xt.out (by decide) [97,50] (by decide) (by decide) #[.int .u8 97, .int .u8 50] rfl X.LK).mono ?_;rintro e Z0 ⟨rfl,h⟩;have Xu:=aa h;clear h Xt;clear RX RY;go_wp2_with fail;refine(Jf Xu.out (by decide) 0 [97,50] (by decide) (by decide) #[.int .u8 97, .int .u8 50] rfl X.LL).mono ?_;rintro e s6 ⟨v22,rfl,hs,h⟩;have Xv:=aa h;obtain⟨Z1,rfl,hby⟩:=iY hs;clear hby
     clear hs;clear h Xu;go_wp2_with fail;refine(xM Xv.out (by decide) 0 3 (by decide) [98] (by decide) #[.int .u8 98] rfl X.LM).mono ?_;rintro e Z2 ⟨rfl,h⟩;have Vf:=aa h;clear h Xv;go_wp2_with fail;refine(qI Vf.out (by decide) (by kernel_rfl) (by kernel_rfl) X.LN).mono ?_;rintro e Zn ⟨v24,rfl,hs,h,hg⟩;have Xw:=aa h;clear hg;obtain⟨Zo,rfl,hby⟩:=iY hs;have Zp:Hid (MO Zn pf Zo [97,49,120]):=aa (uR hby Vf.out);clear hby
     clear hs;clear h Vf;have Vg:=bN (c:=[97,49,120].length) Zp.out;simp only[List.length_cons,List.length_nil,Nat.zero_add,Nat.reduceAdd]at Vg;go_wp2_with fail;refine(wF Xw.out (by decide) [122,122,122] (by decide) #[.int .u8 122, .int .u8 122, .int .u8 122] rfl X.LO).mono ?_;rintro e s7 ⟨rfl,h⟩;have Xx:=aa h;clear h Xw;go_wp2_with fail;refine(xM Xx.out (by decide) 2 0 (by decide) [120] (by decide) #[.int .u8 120] rfl X.LP).mono ?_;rintro e Z3 ⟨rfl,h⟩;have Vh:=aa h;clear h Xx;go_wp2_with fail;refine(Lj Vh.out (by decide) U7 rfl).mono ?_;rintro e Z4 ⟨rfl,hb⟩;have HB:=aa (Vh.out.bel.trans (hb.mono Vh.out.bel.size));clear hb;go_wp2;go_ret;exact⟨rfl,HB.out⟩
end Go.Proofs.YtipljcmmokaokaaGreat
