import Derived.Test.YtipljcmmokaokaaGreatQ22
import Derived.Lib.SlBytesConst
set_option linter.unusedVariables false
set_option linter.unusedSimpArgs false
set_option maxHeartbeats 40000000
namespace Go.Proofs.YtipljcmmokaokaaGreat
open Go.RowKit Go.Lib Go.Maps Go.WideMaps Go.Sort
set_option maxRecDepth 100000
namespace X
def abw:M:=M.new [⟨0,2,false⟩,⟨2,1,true⟩] 4
def abx:M:=(abw.open 2 false).1
theorem aby:abw.open 2 false=(abx,[48,48]):=by kernel_rfl
def abz:M:=(abx.close).1
theorem abA:abx.close=(abz,[48,48]):=by kernel_rfl
def Wo:M:=(abz.open 3 false).1
theorem abB:abz.open 3 false=(Wo,[48,48]):=by kernel_rfl
def Wp:M:=(Wo.write [98,49,120]).1
theorem abC:Wo.write [98,49,120]=(Wp,[48,48]):=by kernel_rfl
def Wq:M:=(Wp.write [97,49,120]).1
theorem abD:Wp.write [97,49,120]=(Wq,[48,50]):=by kernel_rfl
def Ws:M:=(Wq.write [97,50,119]).1
theorem abE:Wq.write [97,50,119]=(Ws,[48,48]):=by kernel_rfl
def Wt:M:=(Ws.write [97,49,122]).1
theorem abF:Ws.write [97,49,122]=(Wt,[50,50]):=by kernel_rfl
def Na:M:=(Wt.write [97,98]).1
theorem abG:Wt.write [97,98]=(Na,[52,52]):=by kernel_rfl
def Wu:M:=(Na.next).1
theorem abH:Na.next=(Wu,some [97,49,120],[48,48]):=by kernel_rfl
def Kt:M:=(Wu.next).1
theorem Wv:Wu.next=(Kt,some [97,50,119],[48,48]):=by kernel_rfl
def Ku:M:=(Kt.next).1
theorem Ww:Kt.next=(Ku,some [98,49,120],[48,48]):=by kernel_rfl
def Kv:M:=(Ku.next).1
theorem Wx:Ku.next=(Kv,none,[49,48]):=by kernel_rfl
def EY:M:=(Kv.next).1
theorem Wy:Kv.next=(EY,none,[52,54]):=by kernel_rfl
def Sj:M:=(EY.get 1 [46,46,120]).1
theorem Wz:EY.get 1 [46,46,120]=(Sj,some [98,49,120],[48,50]):=by kernel_rfl
def Sk:M:=(Sj.next).1
theorem WA:Sj.next=(Sk,some [97,49,120],[48,48]):=by kernel_rfl
def Sm:M:=(Sk.next).1
theorem WB:Sk.next=(Sm,none,[49,48]):=by kernel_rfl
def Sn:M:=(Sm.rewrite [98,49,119]).1
theorem WC:Sm.rewrite [98,49,119]=(Sn,[48,50]):=by kernel_rfl
def Sp:M:=(Sn.start 1 2 [119]).1
theorem WD:Sn.start 1 2 [119]=(Sp,[48,48]):=by kernel_rfl
def Sq:M:=(Sp.next).1
theorem WE:Sp.next=(Sq,some [97,50,119],[48,50]):=by kernel_rfl
def Sr:M:=(Sq.next).1
theorem WG:Sq.next=(Sr,some [98,49,119],[48,48]):=by kernel_rfl
def Ss:M:=(Sr.delete [97,50]).1
theorem WH:Sr.delete [97,50]=(Ss,[48,48]):=by kernel_rfl
def Su:M:=(Ss.get 0 [97,50]).1
theorem WI:Ss.get 0 [97,50]=(Su,none,[50,51]):=by kernel_rfl
def Sv:M:=(Su.start 0 3 [98]).1
theorem WJ:Su.start 0 3 [98]=(Sv,[48,48]):=by kernel_rfl
def Sw:M:=(Sv.next).1
theorem WK:Sv.next=(Sw,some [97,49,120],[48,48]):=by kernel_rfl
def Sy:M:=(Sw.rewrite [122,122,122]).1
theorem WL:Sw.rewrite [122,122,122]=(Sy,[50,51]):=by kernel_rfl
def afp:M:=(Sy.start 2 0 [120]).1
theorem WM:Sy.start 2 0 [120]=(afp,[50,51]):=by kernel_rfl
theorem Sz (m:M) (h:m.ks=[⟨0,2,false⟩,⟨2,1,true⟩]) (b:m.size=4) (u:Nat) (c:u<=20):Bd [70] m.ks m.size u:=by
 rw[h,b];refine⟨2,by decide,λi a=> ?_, ?_⟩
 ·match i,a with
  |0,_=>decide
  |1,_=>decide
 ·rw[gN];simp only[List.length_cons,List.length_nil];omega
end X
theorem ajM:Ce [70]:=⟨by decide,by decide,by decide⟩
section
variable {w0 w : World} {p pf u : Nat} {nm : J.B} {fs : List (Nat × Obj)} {m : X.M}
theorem IX.get (h:IX w0 p pf nm u fs m w) {x:Nat×Obj} (a:x∈fs):w.heap[x.1]? =some x.2:=by
 obtain⟨L,s,f,g,c,ok,h⟩:=h;exact h.at_.get (ag _ (ag _ a))
theorem EZ {w:World} (b:J.B) (a:(⟨b.toArray⟩:ByteArray).size<=grownCap w (⟨b.toArray⟩:ByteArray).size 0 5):
  Sl (w.drew.alloc (.cells (bytesRow ⟨b.toArray⟩ (grownCap w (⟨b.toArray⟩:ByteArray).size 0 5)) 5 ((bytesRow ⟨b.toArray⟩ (grownCap w (⟨b.toArray⟩:ByteArray).size 0 5)).size,(bytesRow ⟨b.toArray⟩ (grownCap w (⟨b.toArray⟩:ByteArray).size 0 5)).size+1))) bE (.slice (some ⟨w.heap.size,0,none⟩) (⟨b.toArray⟩:ByteArray).size (grownCap w (⟨b.toArray⟩:ByteArray).size 0 5)) b:=by
 have e:(⟨b.toArray⟩:ByteArray).size=b.length:=by simp[ByteArray.size]
 rw[e]at a|-;have c:w.heap.size<(w.drew.alloc (.cells (bytesRow ⟨b.toArray⟩ (grownCap w b.length 0 5)) 5 ((bytesRow ⟨b.toArray⟩ (grownCap w b.length 0 5)).size,(bytesRow ⟨b.toArray⟩ (grownCap w b.length 0 5)).size+1))).heap.size:=by
  show w.heap.size<(w.heap.push _).size;simp
 refine .inr ⟨w.heap.size,0,_,rfl,a,c,rfl,λ_=>⟨w.heap.size,0,rfl,c,λh=>h,λj d=> ?_⟩⟩;rw[Nat.zero_add,cell_of_row _ w.heap.size j _ _ _ (heap_alloc_new w.drew _)];have:=bytesRow_at ⟨b.toArray⟩ (grownCap w b.length 0 5) j (by simpa using d);rw[this];simp[u8]
theorem rT (h:IX w0 p pf nm u fs m w) (b:J.B) (f:b≠[]):∃c w' o,(convert 9 40 (.string ⟨b.toArray⟩)).run Tryz.prog w= .ok (.slice (some ⟨w.heap.size,0,none⟩) b.length c) w'/\IX w0 p pf nm u ((w.heap.size,o)::fs) m w'/\Src w0 p ((w.heap.size,o)::fs) (.slice (some ⟨w.heap.size,0,none⟩) b.length c) b:=by
 have e:=run_bytes_of_string (P:=Tryz.prog) w 9 40 5 ⟨b.toArray⟩ Tryz.underlying9 Tryz.underlying40 Tryz.underlying5;have j:(⟨b.toArray⟩:ByteArray).size=b.length:=by simp[ByteArray.size]
 have g:(⟨b.toArray⟩:ByteArray).size<=grownCap w (⟨b.toArray⟩:ByteArray).size 0 5:=by simp[grownCap,Question.cut]
 have i:=EZ (w:=w) b g;have d:=(h.below ((ak _ w).drew)).more (.cells (bytesRow ⟨b.toArray⟩ (grownCap w (⟨b.toArray⟩:ByteArray).size 0 5)) 5 ((bytesRow ⟨b.toArray⟩ (grownCap w (⟨b.toArray⟩:ByteArray).size 0 5)).size,(bytesRow ⟨b.toArray⟩ (grownCap w (⟨b.toArray⟩:ByteArray).size 0 5)).size+1));have a:=Kr (w0:=w0) (p:=p) i f (heap_alloc_new w.drew _) (af (l:=fs));rw[j]at e d a;exact⟨_,_,_,e,d,a⟩
theorem jO {w0 w:World} {v:Value} {l:J.B} (h:bT w (· <w0.heap.size) v l):∃A,v= .slice A l.length l.length/\By w (· <w0.heap.size) A l.length l:=by
 obtain⟨A,e⟩:=h.aU;subst e;refine⟨A,rfl, ?_⟩;obtain⟨b,c',e,_,a⟩:=h.sl.by
 injection e with e1 e2 e3;rw[e1];exact a
end
abbrev Nb:Obj:=(.cells #[.string ⟨#[98,49,120]⟩, .string ⟨#[97,49,120]⟩, .string ⟨#[97,50,119]⟩, .string ⟨#[97,49,122]⟩, .string ⟨#[97,98]⟩] 9 (0,0):Obj)
abbrev Nc:Obj:=(.cells #[.string ⟨#[48,48]⟩, .string ⟨#[48,50]⟩, .string ⟨#[48,48]⟩, .string ⟨#[50,50]⟩, .string ⟨#[52,52]⟩] 9 (0,0):Obj)
abbrev Kw:Obj:=(.cells #[.string ⟨#[97,49,120]⟩, .string ⟨#[97,50,119]⟩, .string ⟨#[98,49,120]⟩, .string ⟨#[]⟩, .string ⟨#[]⟩] 9 (0,0):Obj)
abbrev Kz:Obj:=(.cells #[.string ⟨#[48,48]⟩, .string ⟨#[48,48]⟩, .string ⟨#[48,48]⟩, .string ⟨#[49,48]⟩, .string ⟨#[52,54]⟩] 9 (0,0):Obj)
def YT:Nat->X.M
 |0=>X.Wo
 |1=>X.Wp
 |2=>X.Wq
 |3=>X.Ws
 |4=>X.Wt
 |_=>X.Na
def YU:Nat->X.M
 |0=>X.Na
 |1=>X.Wu
 |2=>X.Kt
 |3=>X.Ku
 |4=>X.Kv
 |_=>X.EY
def YV (w:World) (pf:Nat) (A:Option Addr) (l:J.B):Prop:=By w (· =pf) A l.length l
theorem vC {w w':World} {pf:Nat} {A:Option Addr} {l:J.B} (h:YV w pf A l) (a:w.grownBy w' (some pf)):YV w' pf A l:=
 h.step (⟨a.os,a.tape,a.output,a.size,λk b d=>a.block k b (λe=>d (by injection e)),λk b c=>c⟩:Step _ (· =pf) _ _)
theorem xz {w0 w w':World} {p pf u:Nat} {nm:J.B} {fs:List (Nat×Obj)} {m:X.M} {A:Option Addr} {l:J.B} (h:By w' (· <w.heap.size) A l.length l) (a:IX w0 p pf nm u fs m w):YV w' pf A l:=by
 obtain⟨L,s,f,g,c,ok,a⟩:=a;have h1:pf<w.heap.size:=(ai (a.at_.get af)).1;refine⟨rfl,λk=> ?_⟩;obtain⟨b,o,e,d,i,j⟩:=h.2 k;exact⟨b,o,e,d,λhh=>i (by rw[hh];exact h1),j⟩
theorem xA (w:World):
  Calls Tryz.prog 8 #[] w λe w'=>e= .returned (.bool true)/\Below w.heap.size w w':=by
 have kc:=λ(w:World) (C:Array Value) (n c:Nat)=>Lib.run_convert_bytes_const (P:=Tryz.prog) w 40 5 C n c Tryz.underlying40 Tryz.underlying5;have KC:=ae kc;clear kc;go_enter Tryz.func8,Tryz.ntmps8;go_wp2_with fail;refine(PG w _ (ak _ _)).mono ?_;rintro e W ⟨p,rfl,h⟩;have H:=ae h;clear h;go_wp2_with fail;have c0:aa (uM (W.alloc (.cells #[.int .i64 0, .int .i64 2, .bool false, .int .i64 2, .int .i64 1, .bool true] 66)) W.heap.size 0 2 (λi=>if i=0 then 0 else 2) (λi=>if i=0 then 2 else 1) (λi=>if i=0 then false else true)):=ae (by
  have hr:=heap_alloc_new W (.cells #[.int .i64 0, .int .i64 2, .bool false, .int .i64 2, .int .i64 1, .bool true] 66);refine⟨(ai hr).1,λi E=> ?_,λi E=> ?_,λi E=> ?_⟩
  all_goals
   rw[cell_of_row _ W.heap.size _ _ _ _ hr]
   match i,E with
    |0,_=>rfl
    |1,_=>rfl)
 refine(RI (H.o.below ((ak _ W).alloc (aq _) _)) [70] 4 W.heap.size 0 2 2 _ _ _ c0.o (by kernel_rfl)).mono ?_;rintro e W0 ⟨pf,rfl,h,_⟩;have H0:aa (IX w p pf [70] 0 [] X.abw W0):=ae (afn h);clear h H c0;go_wp2_with fail;refine(Sa H0.o (by decide) (X.Sz _ rfl rfl _ (by decide)) 2 false X.aby).mono ?_;rintro e W1 ⟨rfl,h⟩;have H1:=ae h;clear h H0;go_wp2_with fail;refine(Wi H1.o X.abA).mono ?_;rintro e W2 ⟨rfl,h⟩;have H2:=ae h;clear h H1;go_wp2_with fail;refine(Sa H2.o (by decide) (X.Sz _ rfl rfl _ (by decide)) 3 false X.abB).mono ?_;rintro e V ⟨rfl,h⟩;have HS:aa (IX w p pf [70] 3 [(V.heap.size+1,Nc),(V.heap.size,Nb)] (YT 0) ((V.alloc Nb).alloc Nc)):=by
  have h1:=(h.more Nb).more Nc;rw[World.size_alloc]at h1;exact ae h1
 clear h H2;generalize c6:V.heap.size+1=s at HS;go_upto_region 7 with fail;generalize V.heap.size=r at HS c6|-;refine aL (λY=>IX w p pf [70] 3 [(s,Nc),(r,Nb)] (YT 0) Y) HS.o ?_;rintro W4 h;have H4:=ae h;clear h HS c6;go_wp2_with fail;go_loopw [6] (fun u W=>∃i:Nat,i<=5/\u= .int .i64 i/\aa (IX w p pf [70] (3+i) [(s,Nc),(r,Nb)] (YT i) W)) (fun u _=>5 - (intOf u).toNat)
 case atStart=>exact⟨0,by decide,rfl,H4⟩
 case round=>
  clear H4;obtain⟨i,E,rfl,q⟩:=hrel;by_cases Z:i<5
  ·clear E;obtain rfl|rfl|rfl|rfl|rfl:i=0\/i=1\/i=2\/i=3\/i=4:=by omega
   have G:=trivial;rotate_left;have I:=trivial;rotate_left;have L:=trivial;rotate_left;have M:=trivial;rotate_left;rotate_left
   all_goals
    clear Z;go_upto_region 10 with fail;have D:=ae (q.o.below ((ak wr.heap.size wr).drew));refine aJ 11 (.rd 0 (.rd 1 (.rd 2 (.rd 3 (.rd 4 (.rd 7 (.rd 8 (.rd 9 (.rd 10 (.wr 5 (.wr 6 .fin))))))))))) (λw'=>w'.heap[r]? =some Nb/\w'.heap[s]? =some Nc) ⟨D.o.get (ag _ af),D.o.get af⟩ ?_;generalize wr.drew=V0 at D|-
    iterate 9
     refine aA (v:= ?_) (λw' y=> ?_) (λK t=> ?_);rotate_left
     ·have ha:=aj w' r y.1;have hb:=aj w' s y.2;clear y;go_simp;try with_reducible rfl
     go_simp;refine t _ ?_;clear t K
    refine az (λK t=> ?_);go_simp;first
     |have G:=G
      obtain⟨c2,V1,o2,S,Q,T⟩:=rT D.o [98,49,120] (by decide)
      skip
     |have I:=I
      obtain⟨c2,V1,o2,S,Q,T⟩:=rT D.o [97,49,120] (by decide)
      skip
     |have L:=L
      obtain⟨c2,V1,o2,S,Q,T⟩:=rT D.o [97,50,119] (by decide)
      skip
     |have M:=M
      obtain⟨c2,V1,o2,S,Q,T⟩:=rT D.o [97,49,122] (by decide)
      skip
     |obtain⟨c2,V1,o2,S,Q,T⟩:=rT D.o [97,98] (by decide)
    rw[S];have F:=ae Q;have N:=ae T;clear Q T S;go_simp;refine t.out _ _ (λw'=>w'.heap[r]? =some Nb/\w'.heap[s]? =some Nc) (λ_ h=>h) ⟨F.o.get (ag _ (ag _ af)),F.o.get (ag _ af)⟩ ?_;clear t K;refine az (λK t=> ?_);go_simp;first
     |have G:=G
      refine(nI F.o (by decide) _ _ N.o X.abC).mono ?_
     |have I:=I
      refine(nI F.o (by decide) _ _ N.o X.abD).mono ?_
     |have L:=L
      refine(nI F.o (by decide) _ _ N.o X.abE).mono ?_
     |have M:=M
      refine(nI F.o (by decide) _ _ N.o X.abF).mono ?_
     |refine(nI F.o (by decide) _ _ N.o X.abG).mono ?_
    rintro e b ⟨rfl,h⟩;first
     |have G:=G
      have f:aa (IX w p pf [70] (3+0+1) [(s,Nc),(r,Nb)] (YT (0+1)) b):=ae (h.cJ (λx l=>ag _ l))
      skip
     |have I:=I
      have f:aa (IX w p pf [70] (3+1+1) [(s,Nc),(r,Nb)] (YT (1+1)) b):=ae (h.cJ (λx l=>ag _ l))
      skip
     |have L:=L
      have f:aa (IX w p pf [70] (3+2+1) [(s,Nc),(r,Nb)] (YT (2+1)) b):=ae (h.cJ (λx l=>ag _ l))
      skip
     |have M:=M
      have f:aa (IX w p pf [70] (3+3+1) [(s,Nc),(r,Nb)] (YT (3+1)) b):=ae (h.cJ (λx l=>ag _ l))
      skip
     |have f:aa (IX w p pf [70] (3+4+1) [(s,Nc),(r,Nb)] (YT (4+1)) b):=ae (h.cJ (λx l=>ag _ l))
    refine t.out _ _ (λw'=>w'.heap[r]? =some Nb/\w'.heap[s]? =some Nc) (λ_ h=>h) ⟨f.o.get (ag _ af),f.o.get af⟩ ?_;clear t K h F N D;show wpList _ _ _ _ _ _;go_wp2;go_roundw;first
     |have G:=G
      case rel=>exact⟨0+1,by decide,rfl,f⟩
     |have I:=I
      case rel=>exact⟨1+1,by decide,rfl,f⟩
     |have L:=L
      case rel=>exact⟨2+1,by decide,rfl,f⟩
     |have M:=M
      case rel=>exact⟨3+1,by decide,rfl,f⟩
     |skip
      case rel=>exact⟨4+1,by decide,rfl,f⟩
    case measure=>decide
  ·obtain rfl:i=5:=(by omega);rw[show(((5:Nat):Int))=5 from rfl];have b9:aa (IX w p pf [70] 8 [] X.Na wr):=ae (q.o.cJ (λx l=>oh l));clear q Z E;have a1:aa (IX w p pf [70] 8 [(wr.heap.size+1,Kz),(wr.heap.size,Kw)] (YU 0) ((wr.alloc Kw).alloc Kz)):=by
    have h1:=(b9.o.more Kw).more Kz;rw[World.size_alloc]at h1;exact ae h1
   clear b9;generalize c7:wr.heap.size+1=o at a1;go_upto_region 14 with fail;generalize wr.heap.size=m at a1 c7|-;refine aL (λY=>IX w p pf [70] 8 [(o,Kz),(m,Kw)] (YU 0) Y) a1.o ?_;rintro W5 h;have H5:=ae h;clear h a1 c7;go_wp2_with fail;go_loopw [9] (fun u W=>∃i:Nat,i<=5/\u= .int .i64 i/\aa (IX w p pf [70] (8+i) [(o,Kz),(m,Kw)] (YU i) W)) (fun u _=>5 - (intOf u).toNat)
   case atStart=>exact⟨0,by decide,rfl,H5⟩
   case round=>
    clear H5;obtain⟨i,E,rfl,q⟩:=hrel;by_cases Z:i<5
    ·clear E;obtain rfl|rfl|rfl|rfl|rfl:i=0\/i=1\/i=2\/i=3\/i=4:=by omega
     have z:=trivial;rotate_left;have A:=trivial;rotate_left;have B:=trivial;rotate_left;have O:=trivial;rotate_left;rotate_left
     all_goals
      clear Z;go_wp2_with fail;first
       |have z:=z
        refine(xy q.o (by decide) X.abH).mono ?_
       |have A:=A
        refine(xy q.o (by decide) X.Wv).mono ?_
       |have B:=B
        refine(xy q.o (by decide) X.Ww).mono ?_
       |have O:=O
        refine(xy q.o (by decide) X.Wx).mono ?_
       |refine(xy q.o (by decide) X.Wy).mono ?_
      rintro e b ⟨v,rfl,a,h⟩;obtain⟨A2,rfl,d⟩:=jO a;first
       |have z:=z
        have f:aa (IX w p pf [70] (8+0+1) [(o,Kz),(m,Kw)] (YU (0+1)) b):=ae h
        skip
       |have A:=A
        have f:aa (IX w p pf [70] (8+1+1) [(o,Kz),(m,Kw)] (YU (1+1)) b):=ae h
        skip
       |have B:=B
        have f:aa (IX w p pf [70] (8+2+1) [(o,Kz),(m,Kw)] (YU (2+1)) b):=ae h
        skip
       |have O:=O
        have f:aa (IX w p pf [70] (8+3+1) [(o,Kz),(m,Kw)] (YU (3+1)) b):=ae h
        skip
       |have f:aa (IX w p pf [70] (8+4+1) [(o,Kz),(m,Kw)] (YU (4+1)) b):=ae h
      have g:=ae (f.o.below ((ak b.heap.size b).drew));have a0:=ae d;clear h a d;go_upto_region 18 with fail;first
       |have z:=z
        refine aR (.rd 0 (.rd 1 (.rd 2 (.rd 3 (.rd 4 (.rd 5 (.rd 6 (.rd 7 (.rd 8 (.rd 9 (.rd 10 (.rd 11 (.rd 12 (.rd 13 (.rd 14 .fin))))))))))))))) (λw'=>w'.heap[m]? =some Kw/\w'.heap[o]? =some Kz/\By w' (· <wr.heap.size) A2 3 [97,49,120]) ⟨g.o.get (ag _ af),g.o.get af,a0.o.step (Step.aC ((ak b.heap.size b).drew))⟩ ?_
       |have A:=A
        refine aR (.rd 0 (.rd 1 (.rd 2 (.rd 3 (.rd 4 (.rd 5 (.rd 6 (.rd 7 (.rd 8 (.rd 9 (.rd 10 (.rd 11 (.rd 12 (.rd 13 (.rd 14 .fin))))))))))))))) (λw'=>w'.heap[m]? =some Kw/\w'.heap[o]? =some Kz/\By w' (· <wr.heap.size) A2 3 [97,50,119]) ⟨g.o.get (ag _ af),g.o.get af,a0.o.step (Step.aC ((ak b.heap.size b).drew))⟩ ?_
       |have B:=B
        refine aR (.rd 0 (.rd 1 (.rd 2 (.rd 3 (.rd 4 (.rd 5 (.rd 6 (.rd 7 (.rd 8 (.rd 9 (.rd 10 (.rd 11 (.rd 12 (.rd 13 (.rd 14 .fin))))))))))))))) (λw'=>w'.heap[m]? =some Kw/\w'.heap[o]? =some Kz/\By w' (· <wr.heap.size) A2 3 [98,49,120]) ⟨g.o.get (ag _ af),g.o.get af,a0.o.step (Step.aC ((ak b.heap.size b).drew))⟩ ?_
       |refine aR (.rd 0 (.rd 1 (.rd 2 (.rd 3 (.rd 4 (.rd 5 (.rd 6 (.rd 7 (.rd 8 (.rd 9 (.rd 10 (.rd 11 (.rd 12 (.rd 13 (.rd 14 .fin))))))))))))))) (λw'=>w'.heap[m]? =some Kw/\w'.heap[o]? =some Kz/\By w' (· <wr.heap.size) A2 0 []) ⟨g.o.get (ag _ af),g.o.get af,a0.o.step (Step.aC ((ak b.heap.size b).drew))⟩ ?_
      iterate 15
       refine aA (v:= ?_) (λw' y=> ?_) (λK t=> ?_);rotate_left
       ·have ha:=aj w' m y.1;have hb:=aj w' o y.2.1;first
         |have z:=z
          have b0:=bL (c:=3) y.2.2
          skip
         |have A:=A
          have b0:=bL (c:=3) y.2.2
          skip
         |have B:=B
          have b0:=bL (c:=3) y.2.2
          skip
         |have b0:=bL (c:=0) y.2.2
        clear y;go_simp;try with_reducible rfl
       go_simp;refine t _ ?_;clear t K
      show wpList _ _ _ _ _ _;simp only[wpList];go_wp2;go_roundw;first
       |have z:=z
        case rel=>exact⟨0+1,by decide,rfl,g⟩
       |have A:=A
        case rel=>exact⟨1+1,by decide,rfl,g⟩
       |have B:=B
        case rel=>exact⟨2+1,by decide,rfl,g⟩
       |have O:=O
        case rel=>exact⟨3+1,by decide,rfl,g⟩
       |skip
        case rel=>exact⟨4+1,by decide,rfl,g⟩
      case measure=>decide
    ·obtain rfl:i=5:=(by omega);rw[show(((5:Nat):Int))=5 from rfl];have a4:aa (IX w p pf [70] 13 [] X.EY wr):=ae (q.o.cJ (λx l=>oh l));have kc:=KC.o;clear q Z E;go_wp2_with fail;refine(Sg a4.o (by decide) 1 [46,46,120] (by decide) (by decide) #[.int .u8 46, .int .u8 46, .int .u8 120] rfl X.Wz).mono ?_;rintro e d5 ⟨f2,rfl,a,h⟩;have a5:=ae h;obtain⟨c8,rfl,d⟩:=jO a;have U:aa (YV d5 pf c8 [98,49,120]):=ae (xz d a4.o);clear d;clear a;clear h a4;go_wp2_with fail;refine(rS a5.o (by decide) (by kernel_rfl) (by kernel_rfl) X.WA).mono ?_;rintro e d6 ⟨f3,rfl,a,h,k⟩;have b1:=ae h;replace U:=ae (vC U.o k);clear k;obtain⟨c9,rfl,d⟩:=jO a;have a2:aa (YV d6 pf c9 [97,49,120]):=ae (xz d a5.o);clear d;clear a;clear h a5;go_wp2_with fail;refine(rS b1.o (by decide) (by kernel_rfl) (by kernel_rfl) X.WB).mono ?_;rintro e e3 ⟨f4,rfl,a,h,k⟩;have b2:=ae h;replace U:=ae (vC U.o k);replace a2:=ae (vC a2.o k);clear k;obtain⟨e1,rfl,d⟩:=jO a;clear d;clear a;clear h b1;have c1:=bL (c:=[98,49,120].length) U.o;simp only[List.length_cons,List.length_nil,Nat.zero_add,Nat.reduceAdd]at c1;have c3:=bL (c:=[97,49,120].length) a2.o;simp only[List.length_cons,List.length_nil,Nat.zero_add,Nat.reduceAdd]at c3;go_wp2_with fail;refine(zM b2.o (by decide) [98,49,119] (by decide) #[.int .u8 98, .int .u8 49, .int .u8 119] rfl X.WC).mono ?_;rintro e e4 ⟨rfl,h⟩;have b3:=ae h;clear h b2;clear c1 c3;go_wp2_with fail;refine(Ci b3.o (by decide) 1 2 (by decide) [119] (by decide) #[.int .u8 119] rfl X.WD).mono ?_;rintro e e5 ⟨rfl,h⟩;have a6:=ae h;clear h b3;go_wp2_with fail;refine(rS a6.o (by decide) (by kernel_rfl) (by kernel_rfl) X.WE).mono ?_;rintro e d7 ⟨f5,rfl,a,h,k⟩;have a7:=ae h;clear k;obtain⟨d0,rfl,d⟩:=jO a;have a3:aa (YV d7 pf d0 [97,50,119]):=ae (xz d a6.o);clear d;clear a;clear h a6;go_wp2_with fail;refine(rS a7.o (by decide) (by kernel_rfl) (by kernel_rfl) X.WG).mono ?_;rintro e d8 ⟨f6,rfl,a,h,k⟩;have b4:=ae h;replace a3:=ae (vC a3.o k);clear k;obtain⟨d1,rfl,d⟩:=jO a;have d3:aa (YV d8 pf d1 [98,49,119]):=ae (xz d a7.o);clear d;clear a;clear h a7;have c4:=bL (c:=[97,50,119].length) a3.o;simp only[List.length_cons,List.length_nil,Nat.zero_add,Nat.reduceAdd]at c4;have c5:=bL (c:=[98,49,119].length) d3.o;simp only[List.length_cons,List.length_nil,Nat.zero_add,Nat.reduceAdd]at c5;go_wp2_with fail;refine(Sd b4.o (by decide) [97,50] (by decide) (by decide) #[.int .u8 97, .int .u8 50] rfl X.WH).mono ?_;rintro e e6 ⟨rfl,h⟩;have b5:=ae h;clear h b4;clear c4 c5;go_wp2_with fail;refine(Sg b5.o (by decide) 0 [97,50] (by decide) (by decide) #[.int .u8 97, .int .u8 50] rfl X.WI).mono ?_;rintro e e7 ⟨f7,rfl,a,h⟩;have b6:=ae h;obtain⟨e2,rfl,d⟩:=jO a;clear d;clear a;clear h b5;go_wp2_with fail;refine(Ci b6.o (by decide) 0 3 (by decide) [98] (by decide) #[.int .u8 98] rfl X.WJ).mono ?_;rintro e e8 ⟨rfl,h⟩;have a8:=ae h;clear h b6;go_wp2_with fail;refine(rS a8.o (by decide) (by kernel_rfl) (by kernel_rfl) X.WK).mono ?_;rintro e d9 ⟨f8,rfl,a,h,k⟩;have b7:=ae h;clear k;obtain⟨d2,rfl,d⟩:=jO a;have d4:aa (YV d9 pf d2 [97,49,120]):=ae (xz d a8.o);clear d;clear a;clear h a8;have e0:=bL (c:=[97,49,120].length) d4.o;simp only[List.length_cons,List.length_nil,Nat.zero_add,Nat.reduceAdd]at e0;go_wp2_with fail;refine(zM b7.o (by decide) [122,122,122] (by decide) #[.int .u8 122, .int .u8 122, .int .u8 122] rfl X.WL).mono ?_;rintro e e9 ⟨rfl,h⟩;have b8:=ae h;clear h b7;go_wp2_with fail;refine(Ci b8.o (by decide) 2 0 (by decide) [120] (by decide) #[.int .u8 120] rfl X.WM).mono ?_;rintro e f0 ⟨rfl,h⟩;have a9:=ae h;clear h b8;go_wp2_with fail;refine(Wk a9.o (by decide) ajM rfl).mono ?_;rintro e f1 ⟨rfl,hb⟩;have HB:=ae (a9.o.bel.trans (hb.mono a9.o.bel.size));clear hb;go_wp2;go_ret;exact⟨rfl,HB.o⟩
end Go.Proofs.YtipljcmmokaokaaGreat
namespace Go.Proofs.YtipljcmmokaokaaGreat
open Go.RowKit Go.Lib
set_option maxRecDepth 100000
namespace X
structure Ac where
 what:Nat
 key:Nat
 n:Nat
 val:B
def fW (L:List Ac):Nat:=(L.map λa=>1+a.val.length/8).sum
theorem IJ (L:List Ac) (k:Nat) (h:k<L.length):fW (L.take (k+1))=fW (L.take k)+(1+L[k].val.length/8):=by
 unfold fW;rw[List.take_succ_eq_append_getElem h,List.map_append,List.sum_append];simp
theorem IL (L:List Ac) (k:Nat):fW (L.take k)<=fW L:=by
 unfold fW
 conv=>rhs;rw[<-List.take_append_drop k L,List.map_append,List.sum_append]
 omega
theorem Ng (L:List Ac):L.length<=fW L:=by
 unfold fW
 induction L with
 |nil=>exact aq _
 |cons a t b=>simp only[List.map_cons,List.sum_cons,List.length_cons];omega
theorem SA (L:List Ac) (a:Ac) (h:a∈L):1+a.val.length/8<=fW L:=by
 unfold fW
 induction L with
 |nil=>cases h
 |cons b t c=>
  simp only[List.map_cons,List.sum_cons];rcases au h with rfl|h
  ·omega
  ·have:=c h;omega
end X
def fX (w:World) (M:Nat->Prop) (A:Option Addr) (L:List X.Ac):Prop:=
 0<L.length->∃b o,A=some ⟨b,o,none⟩/\b<w.heap.size/\¬M b/\∀i (h:i<L.length),w.cell? ⟨b,o+i*4,none⟩=some (.int .u8 L[i].what)/\w.cell? ⟨b,o+i*4+1,none⟩=some (.int .u8 L[i].key)/\w.cell? ⟨b,o+i*4+2,none⟩=some (.int .u8 L[i].n)/\
  (∃v,w.cell? ⟨b,o+i*4+3,none⟩=some v/\Sl w M v L[i].val)/\L[i].what<256/\L[i].key<256/\L[i].n<256
theorem fX.step {w w':World} {M M':Nat->Prop} {A:Option Addr} {L:List X.Ac} (h:fX w M A L) (c:Step M M' w w'):fX w' M' A L:=λr=>by
 obtain⟨b,o,e,d,f,n⟩:=h r;refine⟨b,o,e,av d c.size,λq=>f (c.sub b d q),λi p=> ?_⟩;obtain⟨h1,g,j,⟨v,k,l⟩,m⟩:=n i p;exact⟨(c.cell (a:=⟨b,o+i*4,none⟩) d f).trans h1,(c.cell (a:=⟨b,o+i*4+1,none⟩) d f).trans g,(c.cell (a:=⟨b,o+i*4+2,none⟩) d f).trans j,⟨v,(c.cell (a:=⟨b,o+i*4+3,none⟩) d f).trans k,l.step c⟩,m⟩
theorem fX.weak {w:World} {M M':Nat->Prop} {A:Option Addr} {L:List X.Ac} (h:fX w M A L) (a:∀k,M' k->M k):fX w M' A L:=λq=>by
 obtain⟨b,o,e,l,p,m⟩:=h q;refine⟨b,o,e,l,λh=>p (a b h),λi n=> ?_⟩;obtain⟨h1,c,d,⟨v,f,g⟩,j⟩:=m i n;exact⟨h1,c,d,⟨v,f,g.weak a⟩,j⟩
theorem KA (A:Option Addr) (c:Nat) (L:List X.Ac) (d:Nat) (w:World) (h:fX w bE A L) (G:d<=1000) (E:L.length<=9223372036854775807) (q:∀a∈L,a.val.length<=9223372036854775807):
  Calls Tryz.prog 21 #[.slice A L.length c, .int .i64 d] w λe w'=>e= .returned (.bool (decide (d<X.fW L)))/\w=w':=by
 have H:=ae h;have s:=ae q;have F:(L.length:Int)<=9223372036854775807:=by omega
 clear h q;go_enter Tryz.func21,Tryz.ntmps21;go_wp2;go_loop [5,6] (fun n i=>∃k:Nat,k<=L.length/\i= .int .i64 k/\n= .int .i64 (X.fW (L.take k):Nat)/\X.fW (L.take k)<=1152921504606848000) (fun _ i=>L.length - (intOf i).toNat)
 case atStart=>exact⟨0,Nat.zero_le _,rfl,rfl,Nat.zero_le _⟩
 case round=>
  obtain⟨k,D,rfl,rfl,p⟩:=hrel;by_cases g:k<L.length
  ·by_cases m:X.fW (L.take k)<=d
   ·obtain⟨b,o,rfl,C,_,l⟩:=H.o (by omega);obtain⟨_,_,_,⟨v,t,j⟩,_⟩:=l k g;obtain⟨y,z,rfl,_,u⟩:=j.by
    have f:=ae (X.IJ L k g);have x:=s.o _ (List.getElem_mem g);clear j u l;generalize L[k].val.length=n at t f x;have K:(n:Int)<=9223372036854775807:=(by omega);have M:(0:Int)<=(n:Int):=(by omega);have N:(n:Int).tdiv 8=((n/8:Nat):Int):=rfl;generalize X.fW (L.take k)=U at p m f;have B:(U:Int)<=d:=(by omega);go_wp2;go_round
    case rel=>exact⟨k+1,by omega,by go_num,by rw[f.o];congr 1;omega,by rw[f.o];omega⟩
    case measure=>simp[intOf];omega
   ·have I:¬(X.fW (L.take k):Int)<=(d:Int):=(by omega);have r:=ae (av (Nat.lt_of_not_le m) (X.IL L k));go_wp2;go_ret;exact⟨ret_bool (by rw[decide_eq_true r.o];simp;omega),rfl⟩
  ·obtain rfl:k=L.length:=(by omega);rw[List.take_length]at p|-;go_wp2;go_ret;exact⟨ret_bool (by simp),rfl⟩
end Go.Proofs.YtipljcmmokaokaaGreat
namespace Go.Proofs.YtipljcmmokaokaaGreat
open Go.RowKit Go.Lib Go.Maps Go.WideMaps Go.Sort
set_option maxRecDepth 100000
theorem Tryz.abI:(Tryz.prog.info? 40).map (λi=>(i.zero,i.size,i.bytes))=some (some (.slice none 0 0),1,24):=by kernel_rfl
theorem IM (A:Addr) (n c:Nat) (w:World) (a:n<=c):
  Calls Tryz.prog 112 #[.slice (some A) n c] w λe w'=>e= .returned (.slice (some A) n n)/\w=w':=by
 go_enter Tryz.func112,Tryz.ntmps112;go_wp2;go_ret;exact⟨rfl,rfl⟩
theorem IP (w:World):
  Calls Tryz.prog 112 #[.slice none 0 0] w λe w'=>e= .returned (.slice none 0 0)/\w=w':=by
 go_enter Tryz.func112,Tryz.ntmps112;go_wp2;go_ret;exact⟨rfl,rfl⟩
section
variable {W D : World} {base n I K : Nat} {e e1 e2 : TypeId} {v L v2 : Value} {E F G : List Value} {B : List J.B}
theorem SB {l:J.B} {x:Value} (i:e≠5) (h:bT W bE x l) (p:W.ownsRow base e 1 v n E) (j:W.grownBy D v.ownBlock):bT D bE x l:=by
 have h1:bT W (λk=>v.ownBlock=some k) x l:=by
  rcases h with h|⟨b,o,g,h1,c,_,d⟩
  ·exact .inl h
  ·have f:¬v.ownBlock=some b:=λhh=>by
    obtain⟨c2,a⟩:=zu p hh;obtain⟨_,cur,_,a1⟩:=c;rw[a1]at a;injection a with a;injection a with _ a;exact i a.symm
   refine .inr ⟨b,o,g,h1,c,f,d.1,λm=> ?_⟩;obtain⟨b',o',e2,q,_,r⟩:=d.2 m;injection e2 with e2;injection e2 with e2 e3;subst e2 e3;exact⟨_,_,rfl,q,f,r⟩
 exact(h1.step (Step.bg j (λk e _=>e):Step _ (λk=>v.ownBlock=some k) W D)).weak (λ_ h=>h.elim)
structure AlI (base:Nat) (B:List J.B) (k:Nat) (o:Value) (w2 W:World):Prop where
 bel:Below w2.heap.size w2 W
 bs:base=w2.heap.size
 vals:∃ys:List Value,W.ownsRow base 40 1 o k ys/\∀i (h:i<ys.length) (h':i<B.length),bT W bE ys[i] B[i]
theorem xB {l:J.B} {x:Value} (h:bT W bE x l) (a:Below W.heap.size W D):bT D bE x l:=h.step (Step.aC a)
theorem il (W:World) (o:Obj):Below W.heap.size W (W.alloc o):=(ak _ _).alloc (aq _) o
theorem WN {k:Nat} {o2 x v2:Value} {d wr w5 w7:World} {O2:Obj} {a:List Value} (b:AlI base B k o2 d wr) (z:k<B.length) (m:wr.ownsRow base 40 1 o2 k a) (w:∀i (h:i<a.length) (g:i<B.length),bT wr bE a[i] B[i])
  (c:Below wr.heap.size wr w5) (t:bT w5 bE x B[k]) (p:w7.ownsRow base 40 1 v2 (k+1) (a++[x])) (f:(w5.alloc O2).grownBy w7 o2.ownBlock):AlI base B (k+1) v2 d w7:=by
 have s:40≠5:=by decide
 have o:=cN (cN m c) (il w5 O2);have e:Below d.heap.size d (w5.alloc O2):=(b.bel.trans (c.mono b.bel.size)).alloc (aw b.bel.size c.size) O2;have q:=e.grown f e.size (λj r=>by rw[<-b.bs];exact(o.lt j r).1);have go:∀y l,bT w5 bE y l->bT w7 bE y l:=λy l u=>SB s (xB u (il w5 O2)) o f;refine⟨q,b.bs,a++[x],p,λi h g=> ?_⟩;have v:a.length=k:=by have:=m.1;omega
 by_cases n:i<a.length
 ·rw[List.getElem_append_left n];exact go _ _ (xB (w i n g) c)
 ·have:i=k:=(by rw[List.length_append,List.length_singleton]at h;omega);subst this;rw[List.getElem_append_right (by omega)]
  simpa [v] using go _ _ t
theorem IQ (h:W.ownsRow base 40 1 v n E):
  Calls Tryz.prog 112 #[v] W λe w'=>∃A,e= .returned (.slice A n n)/\(∀i (h:i<E.length),∃g,A=some ⟨g,0,none⟩/\g<W.heap.size/\W.cell? ⟨g,i,none⟩=some E[i])/\W=w':=by
 have b:=h;have f:=h.1;rcases h.2 with⟨rfl,h0⟩|⟨g,cap,cur,rfl,_,d,c,_⟩
 ·subst h0;refine(IP W).mono ?_;rintro e w1 ⟨rfl,rfl⟩;exact⟨none,rfl,λi a=>by omega,rfl⟩
 ·refine(IM ⟨g,0,none⟩ n cap W c).mono ?_;rintro e w1 ⟨rfl,rfl⟩;refine⟨_,rfl,λi a=>⟨g,rfl,(ai d).1, ?_⟩,rfl⟩;rw[b.cellAt i (by omega),List.getElem?_eq_getElem a]
theorem bT.abK {M:Nat->Prop} {l:J.B} (h:bT W M v l):∃A,v= .slice A l.length l.length/\By W M A l.length l:=by
 rcases h with⟨rfl,rfl⟩|⟨b,o,rfl,_,_,_,a⟩
 ·exact⟨none,rfl,By.dV⟩
 ·exact⟨_,rfl,a⟩
def KB (W:World) (A:Option Addr) (B:List J.B):Prop:=∀i (h:i<B.length),∃g v,A=some ⟨g,0,none⟩/\g<W.heap.size/\W.cell? ⟨g,i,none⟩=some v/\Sl W bE v B[i]
theorem KB.below {A:Option Addr} (h:KB W A B) (a:Below W.heap.size W D):KB D A B:=λi d=>by
 obtain⟨g,v,e,h1,b,c⟩:=h i d;exact⟨g,v,e,av h1 a.size,(a.cell (p:=⟨g,i,none⟩) h1).trans b,c.step (Step.aC a)⟩
end
section
variable {w0 : World} {p size ct : Nat} {nm : J.B} {ks : List X.Ky} {rows : List X.Row} {w w' : World} {s : J.St} {fs : List (Nat × Obj)}
theorem Fa (h:At w0 p fs s w) (j:nm.length<=200) (i:J.look s.now (X.own nm)=none):
  Calls Tryz.prog 28 #[.pointer (some ⟨p,0,none⟩), .string ⟨nm.toArray⟩] w λe w'=>e= .returned (.int .i64 7)/\Below w.heap.size w w':=by
 have b:=ae (EK h j i);clear h j i;go_enter Tryz.func28,Tryz.ntmps28;go_wp2_with fail;refine b.o.mono ?_;rintro e w1 ⟨rfl,d⟩;have a:=ae d;have c:=ae (heap_alloc_new w1 ik);clear d b;go_wp2_with (refine wpList_store_row rfl _ _ 29 rfl w1.heap.size rfl [.string ⟨#[]⟩, .int .i64 0, .slice none 0 0] rfl _ _ c.o rfl (by kernel_rfl) rfl ?_);intro W2 m g n;have f:=((ak w1.heap.size w1).alloc (aq _) ik).grown g (by simp) (λk e=>by injection e with e;omega);have l:=ae (a.o.trans (f.mono a.o.size));clear m g n f c a;go_wp2;go_ret;exact⟨rfl,l.o⟩
theorem SC (h:At w0 p fs s w) (l:Ce nm) (d:XF nm size ks rows ct s.now) (k:Int) (i:k<0\/(ks.length:Int)<=k):
  Calls Tryz.prog 72 #[.pointer (some ⟨p,0,none⟩), .string ⟨nm.toArray⟩, .int .i64 k] w λe w'=>e= .returned (.tuple #[.slice none 0 0, .int .i64 1])/\Below w.heap.size w w':=by
 have m:=ae (nZ h l d);have o:=ae (λW (z:Below w.heap.size w W)=>tN (h.below z) l d.ks d.con.own);clear h l d;go_enter Tryz.func72,Tryz.ntmps72;go_wp2_with fail;refine m.o.mono ?_;rintro e w1 ⟨rfl,r⟩;have b:=ae r;clear r m;go_wp2_with fail;refine(o.o _ b.o).mono ?_;rintro e a ⟨g,c,rfl,t,A,B,C⟩;have f:=ae (b.o.trans (t.mono b.o.size));have q:=ae (heap_alloc_new a ik);clear t A B C o b;go_wp2_with (refine wpList_store_row rfl _ _ 29 rfl a.heap.size rfl [.string ⟨nm.toArray⟩, .int .i64 (size:Nat), .slice (some ⟨g,0,none⟩) ks.length c] rfl _ _ q.o rfl (by kernel_rfl) rfl ?_);intro y x v D;have u:=((ak a.heap.size a).alloc (aq _) ik).grown v (by simp) (λk e=>by injection e with e;omega);have n:=ae (f.o.trans (u.mono f.o.size));have E:=aj y a.heap.size x;clear x v D u q f;rcases i with i|i
 ·go_wp2;go_ret2;exact⟨rfl,n.o⟩
 ·have F:¬k<0:=(by omega);go_wp2;go_ret2;exact⟨rfl,n.o⟩
theorem WO (h:At w0 p fs s w) (Z:Ce nm) (a:XF nm size ks rows ct s.now) (k:Nat) (hk:k<ks.length):
  Calls Tryz.prog 72 #[.pointer (some ⟨p,0,none⟩), .string ⟨nm.toArray⟩, .int .i64 (k:Nat)] w λe w'=>∃A,e= .returned (.tuple #[.slice A rows.length rows.length, .int .i64 0])/\KB w' A ((X.cn ks k rows).map (·.b))/\Below w.heap.size w w':=by
 obtain⟨i2,d5,e0,e4,e5⟩:=info_parts Tryz.abI;have a9:rows.length<=100000:=by
  have e7:=a.con.count a.rows (by have:=a.ct;omega) a.ks.one.1 (by have:=a.ks.one;omega);have:=a.many;have:=Nat.le_mul_of_pos_left rows.length (show 0<ks.length by omega);omega
 have h8:=a.ks.one;have HA:=ae (nZ h Z a);have f0:=ae (λW (y:Below w.heap.size w W)=>tN (h.below y) Z a.ks a.con.own);have HP:=ae (λ(g c:Nat) W=>bU nm size (some ⟨g,0,none⟩) ks.length c k (by omega) (by have:=a.nm;omega) W);have t:=ae (λW (y:Below w.heap.size w W)=>ie (h.below y) ⟨(X.pre nm k).toArray⟩ (by have:=a.many;omega));rw[show keysOf s.now ⟨(X.pre nm k).toArray⟩=(X.cn ks k rows).map (X.aN nm ks k)from a.con.gP (by omega) a.rows (by have:=a.ct;omega) hk]at t;have c8:=ae (λW (y:Below w.heap.size w W) (g c:Nat) (r:X.Row) (hr:r∈rows)=>pR (h.below y) a hk hr (some ⟨g,0,none⟩) ks.length c);have I:=ae (show(X.cn ks k rows).length=rows.length from X.qN ks k rows);have a3:=ae (λr=>(X.bD ks k r rows).1);have c6:=ae a9;clear h Z a h8 a9;generalize d9:X.cn ks k rows=b at t I a3|-;clear d9;generalize(⟨(X.pre nm k).toArray⟩:ByteArray)=pp at HP t;go_enter Tryz.func72,Tryz.ntmps72;go_wp2_with fail;refine HA.o.mono ?_;rintro e w1 ⟨rfl,b0⟩;have D:=ae b0;clear b0 HA;go_wp2_with fail;refine(f0.o _ D.o).mono ?_;rintro e q ⟨g,c,rfl,b1,d3,d4,d6⟩;have N:=ae (D.o.trans (b1.mono D.o.size));have HZ:=ae (heap_alloc_new q ik);clear b1 d3 d4 d6 f0 D;go_wp2_with (refine wpList_store_row rfl _ _ 29 rfl q.heap.size rfl [.string ⟨nm.toArray⟩, .int .i64 (size:Nat), .slice (some ⟨g,0,none⟩) ks.length c] rfl _ _ HZ.o rfl (by kernel_rfl) rfl ?_);intro W3 a0 b5 e6;have b2:=((ak q.heap.size q).alloc (aq _) ik).grown b5 (by simp) (λk e=>by injection e with e;omega);have O:=ae (N.o.trans (b2.mono N.o.size));have Q:=ae a0;have L:=aj W3 q.heap.size a0;have e9:(k:Int)<(ks.length:Nat):=by omega
 clear a0 b5 e6 b2 HZ N;generalize q.heap.size=bx at Q L|-;go_wp2_with fail;refine(HP.o g c W3).mono ?_;rintro e w4 ⟨rfl,T⟩;have F:=ae (O.o.trans (T.mono O.o.size));have a6:=ae (bu T Q.o);clear T L O Q HP;go_wp2_with fail;refine(t.o _ F.o).mono ?_;rintro e w5 ⟨A,rfl,hst,ha,U,hA⟩;have G:=ae (F.o.trans (U.mono F.o.size));have c7:=ae (bu U a6.o);have c9:=ae hst;have z:(b.map (X.aN nm ks k)).length=rows.length:=by rw[List.length_map];exact I.o
 rw[z];clear hst ha U hA t F a6 z;go_wp2_with fail;go_loopw [11,43] (fun o u W=>∃j:Nat,j<=rows.length/\u= .int .i64 j/\aa (AlI w5.heap.size (b.map (·.b)) j o w5 W)) (fun _ u _=>rows.length - (intOf u).toNat)
 case atStart=>exact⟨0,Nat.zero_le _,rfl,ae ⟨ak _ _,rfl,[],World.ownsRow_nil _ _ _ _,λi h=>absurd h (Nat.not_lt_zero i)⟩⟩
 case round=>
  obtain⟨j,hj,rfl,f⟩:=hrel;by_cases Y:j<rows.length
  ·have M:j<b.length:=(by rw[I.o];exact Y);have z:j<(b.map (X.aN nm ks k)).length:=(by rw[List.length_map];exact M);obtain⟨ga,rfl,b7,b4⟩:=c9.o (by omega);have n:=b4 j z;rw[List.getElem_map]at n;replace n:wr.cell? ⟨ga,j,none⟩=some (.string ⟨(X.aN nm ks k b[j]).toArray⟩):=(f.o.bel.cell (p:=⟨ga,j,none⟩) b7).trans n;have c1:b[j]∈rows:=a3.o _ (List.getElem_mem M);have P:=ae Y;have H:=ae (show j<=1000000 by have:=c6.o;omega);have e8:(j:Int)<(rows.length:Nat):=(by omega);have b3:Below w.heap.size w wr:=G.o.trans (f.o.bel.mono G.o.size);have L:=aj wr bx (bu f.o.bel c7.o);have K:=ae (c8.o wr b3 g c b[j] c1);obtain⟨ys,l,C⟩:=f.o.vals;have b8:j<(b.map (·.b)).length:=(by rw[List.length_map];exact M);have c0:(b.map (·.b))[j]=b[j].b:=List.getElem_map _;have S:=ae (λ(x v2:Value) (d w7:World) (O2:Obj) (m:Below wr.heap.size wr d) (hx:bT d bE x b[j].b) a2 g2=>WN (x:=x) (v2:=v2) (w5:=d) (w7:=w7) (O2:=O2) f.o b8 l C m (by rw[c0];exact hx) a2 g2);have a4:=ae l;have c3:=ae (show w5.heap.size<=wr.heap.size from f.o.bel.size);clear z b4 b7 c1 Y b3 l C b8 c0 hj;generalize b[j]=r at n K S;clear M;generalize(⟨(X.aN nm ks k r).toArray⟩:ByteArray)=E at n K;go_wp2_with fail;refine K.o.mono ?_;rintro e d ⟨v,rfl,B,ha,m⟩;have B:bT d _ v r.b:=B;obtain⟨Av,rfl,_⟩:=bT.abK B;have a7:=ae (B.weak (M':=bE) (λ_ h=>h.elim));have a1:=ae m;have a5:=ae (cN a4.o m);have d2:w5.heap.size<=d.heap.size:=aw c3.o m.size;clear B ha m K n L;go_wp2_with (at_builtin;refine wpList_append_own_at _ rfl _ _ 22 rfl w5.heap.size 40 i2 _ 1 24 Tryz.underlying22 d5 e0 e4 e5 rfl (by decide) _ _ _ rfl (cN a5.o (il d _)) ⟨d.heap.size,0,none⟩ 1 1 [.slice Av r.b.length r.b.length] rfl rfl (World.news_of_block (heap_alloc_new d _)) (by simp[Value.oneCell']) (by unfold maxLen;have:=H.o;omega) (by have:=H.o;omega) (aw d2 (il d _).size) ?_);intro v2 w7 b9 b6 d8 d7;have c5:=ae (S.o _ _ _ _ _ a1.o a7.o b9 b6);clear b9 b6 d8 d7 S a1 a7 a5 a4;go_wp2_with fail;go_roundw
   case rel=>exact⟨j+1,P.o,by first|exact Cf j H.o|rfl,c5⟩
   case measure=>first|exact vB P.o H.o|exact rQ P.o
  ·obtain rfl:j=rows.length:=(by omega);obtain⟨ys,l,C⟩:=f.o.vals;have c4:=ae (IQ l);have d1:=ae C;have d0:=ae (show ys.length=rows.length by have:=l.1;omega);clear l C;go_wp2_with fail;refine c4.o.mono ?_;rintro e w9 ⟨B9,rfl,a8,rfl⟩;have c2:=ae a8;clear a8;go_wp2;go_ret2;refine⟨B9,rfl,λi V=> ?_,G.o.trans (f.o.bel.mono G.o.size)⟩;obtain⟨g,e1,e2,e3⟩:=c2.o i (by rw[d0.o];rw[List.length_map,I.o]at V;exact V);exact⟨g,_,e1,e2,e3,(d1.o i _ V).sl⟩
end
theorem abL (j:Nat) (h:j<=1000):Value.int .i64 (wrap64 ((j:Int) - 1+1))= .int .i64 (((j+1:Nat):Int) - 1):=by rw[IntWalk.wrap64_in _ (by omega)];congr 1;omega
theorem WQ {j n:Nat} (h:j<n) (a:j<=1000):n - (intOf (Value.int .i64 (wrap64 ((j:Int) - 1+1)))+1).toNat<n - (intOf (Value.int .i64 ((j:Int) - 1))+1).toNat:=by
 rw[IntWalk.wrap64_in _ (by omega)];simp only[intOf];omega
structure LiM (w:World) (q o g c:Nat) (there:Bool) (ks:List X.Ky) (rows:List X.Row):Prop where
 th:w.cell? ⟨q,o+3,none⟩=some (.bool there)
 kss:w.cell? ⟨q,o+2,none⟩=some (.slice (some ⟨g,0,none⟩) ks.length c)
 ql:q<w.heap.size
 so:there=true->∀W,Below w.heap.size w W->∀i,i<ks.length->Calls Tryz.prog 18 #[.pointer (some ⟨q,o,none⟩), .int .i64 (i:Nat)] W λe w'=>∃v' lp,e= .returned v'/\Below W.heap.size W w'/\lU w' bE v' lp/\lp.map (·.1)=X.cn ks i rows
section
variable {w0 : World} {p size ct q o g c : Nat} {nm : J.B} {ks : List X.Ky} {rows : List X.Row} {w w' : World} {s : J.St} {fs : List (Nat × Obj)}
theorem Nh (h:At w0 p fs s w) (f:J.look s.now (X.own [102])=none) (b:LiM w q o g c false ks rows):
  Calls Tryz.prog 24 #[.pointer (some ⟨p,0,none⟩), .pointer (some ⟨q,o,none⟩)] w λe w'=>e= .returned (.bool true)/\Below w.heap.size w w':=by
 have d:=ae (Fa (nm:=[102]) h (by decide) f);have j:=ae (λW (k:Below w.heap.size w W)=>(k.cell (p:=⟨q,o+3,none⟩) b.ql).trans b.th);clear h f b;go_enter Tryz.func24,Tryz.ntmps24;go_wp2_with fail;refine d.o.mono ?_;rintro e w1 ⟨rfl,a⟩;have l:=j.o _ a;have i:=ae a;clear a d;go_wp2;go_ret;exact⟨rfl,i.o⟩
theorem WR (h:At w0 p fs s w) (a:XF [102] size ks rows ct s.now) (r:LiM w q o g c true ks rows) (c6:ks.length<=8):
  Calls Tryz.prog 24 #[.pointer (some ⟨p,0,none⟩), .pointer (some ⟨q,o,none⟩)] w λe w'=>e= .returned (.bool true)/\Below w.heap.size w w':=by
 have I:Ce ([102]:J.B):=⟨by decide,by decide,by decide⟩;have a0:=ae (nZ h I a);have e0:=ae (λW (d:Below w.heap.size w W) (k:Int) (l:k<0\/(ks.length:Int)<=k)=>SC (h.below d) I a k l);have d6:=ae (λW (d:Below w.heap.size w W) (k:Nat) (l:k<ks.length)=>WO (h.below d) I a k l);have H:=ae (λW (d:Below w.heap.size w W)=>(And.intro ((d.cell (p:=⟨q,o+3,none⟩) r.ql).trans r.th) ((d.cell (p:=⟨q,o+2,none⟩) r.ql).trans r.kss)));have e2:=ae (λW (d:Below w.heap.size w W) (k:Nat) (l:k<ks.length)=>r.so rfl W d k l);have d9:=ae (λk=>X.qN ks k rows);have G:=ae c6;have b4:rows.length<=100000:=by
  have e6:=a.con.count a.rows (by have:=a.ct;omega) a.ks.one.1 (by have:=a.ks.one;omega);have:=a.many;have:=Nat.le_mul_of_pos_left rows.length (show 0<ks.length from a.ks.one.1);omega
 have e1:=ae b4;clear h a r I c6 b4;go_enter Tryz.func24,Tryz.ntmps24;go_wp2_with fail;refine a0.o.mono ?_;rintro e w1 ⟨rfl,S⟩;obtain⟨L,M⟩:=H.o _ S;have a4:=ae S;clear S a0;go_wp2;go_loopw [6] (fun u W=>∃j:Nat,j<=ks.length+2/\u= .int .i64 ((j:Int) - 1)/\aa (Below w.heap.size w W)) (fun u _=>ks.length+2 - (intOf u+1).toNat)
 case atStart=>exact⟨0,Nat.zero_le _,rfl,a4⟩
 case round=>
  clear L M a4;obtain⟨j,hj,rfl,b⟩:=hrel;obtain⟨L,M⟩:=H.o _ b.o;have c5:j<=1000:=(by have:=G.o;omega);by_cases z:j<ks.length+2
  ·have e4:(j:Int) - 1<=(ks.length:Nat):=(by omega);have t:=ae z;have E:=ae c5;by_cases c4:1<=j/\j<=ks.length
   ·obtain⟨i,rfl⟩:∃i:Nat,j=i+1:=⟨j - 1,by omega⟩;have c3:i<ks.length:=(by omega);have U:((i+1:Nat):Int) - 1=(i:Nat):=(by omega);have e5:=ae U;rw[U]at e4|-;have h0:¬(i:Int)<0:=(by omega);have f2:((i:Int)==(ks.length:Nat))=false:=beq_eq_false_iff_ne.2 (by omega);have Z:=ae (d6.o wr b.o i c3);have a9:=ae (d9.o i);have b2:=ae (λW d=>e2.o W d i c3);clear z c4 U hj c5;go_wp2_with fail;refine Z.o.mono ?_;rintro e w2 ⟨A,rfl,b6,x⟩;have a2:=ae b6;have f:=ae (b.o.trans (x.mono b.o.size));obtain⟨c9,d0⟩:=H.o _ f.o;clear b6 x Z L M b;go_wp2_with fail;refine(b2.o _ f.o).mono ?_;rintro e m ⟨v',D,rfl,T,d5,Y⟩;obtain⟨Ar,cr,rfl,e3,b5,_,_⟩:=d5.aU;have V:D.length=rows.length:=(by rw[<-a9.o,<-Y,List.length_map]);have a1:=ae b5;have b0:=ae Y;have d8:=ae V;have a3:=ae (a2.o.below T);have a5:=ae (f.o.trans (T.mono f.o.size));rw[V];have f4:(((rows.length:Nat):Int) !=(rows.length:Nat))=false:=(by simp);clear T d5 e3 b5 Y V b2 f c9 d0 a2;go_wp2;go_loopw [10] (fun u W=>∃k:Nat,k<=rows.length/\u= .int .i64 k/\aa (Below m.heap.size m W)) (fun u _=>rows.length - (intOf u).toNat)
    case atStart=>exact⟨0,Nat.zero_le _,rfl,ae (ak _ _)⟩
    case round=>
     obtain⟨k,l,rfl,F⟩:=hrel;by_cases y:k<rows.length
     ·have c7:k<D.length:=(by rw[d8.o];exact y);have d4:k<((X.cn ks i rows).map (·.b)).length:=(by rw[List.length_map,a9.o];exact y);obtain⟨ga,va,rfl,f5,b8,N⟩:=a3.o k d4;have d3:((X.cn ks i rows).map (·.b))[k]=D[k].1.b:=(by rw[List.getElem_map,List.getElem_of_eq b0.o.symm,List.getElem_map]);rw[d3]at N;obtain⟨gr,rfl,c2,b9⟩:=a1.o (by omega);obtain⟨c0,c1⟩:=jF D k c7;have C:=b9 _ _ c0;generalize D[k].1.b=B at N C;obtain⟨Ab,cb,rfl,_,b7⟩:=N.by
      have C:m.cell? ⟨gr,k*2,none⟩=some (.string ⟨B.toArray⟩):=C;have f1:(k:Int)<(rows.length:Nat):=(by omega);have a7:=ae (λ(w':World) (n:Below m.heap.size m w')=>And.intro ((n.cell (p:=⟨ga,k,none⟩) f5).trans b8) ((n.cell (p:=⟨gr,k*2,none⟩) c2).trans C));have a6:=ae b7;have O:=ae y;have G:=ae (show k<=1000000 by have:=e1.o;omega);have a8:=ae F.o.drew;clear c1 d3 d4 c7 f5 b8 N c2 b9 c0 C b7 y l;go_upto_region 19 with fail;refine aR (.rd 0 (.rd 1 (.rd 2 (.rd 3 (.rd 4 (.rd 5 (.rd 6 (.rd 7 (.rd 8 (.rd 9 (.rd 10 .fin))))))))))) (λw'=>Below m.heap.size m w') a8.o ?_;repeat
       refine aA (v:= ?_) (λw' n=> ?_) (λK hK=> ?_);rotate_left
       ·obtain⟨d1,d2⟩:=a7.o w' n;have e7:=bL (c:=cb) (a6.o.below n);clear n;go_simp;try with_reducible rfl
       go_simp;refine hK _ ?_;clear hK K
      show wpList _ _ _ _ _ _;clear a7 a6 F;go_wp2_with fail;go_roundw
      case rel=>exact⟨k+1,O.o,by first|exact Cf k G.o|rfl,a8⟩
      case measure=>first|exact vB O.o G.o|exact rQ O.o
     ·obtain rfl:k=rows.length:=(by omega);have d7:=ae (a5.o.trans (F.o.mono a5.o.size));have P:aa (Value.int .i64 (wrap64 ((i:Int)+1))= .int .i64 (((i+1+1:Nat):Int) - 1)):=ae (by have:=E.o;rw[IntWalk.wrap64_in _ (by omega)];congr 1;omega);have Q:aa (ks.length+2 - (intOf (Value.int .i64 (wrap64 ((i:Int)+1)))+1).toNat<ks.length+2 - (intOf (Value.int .i64 (i:Int))+1).toNat):=ae (by have:=E.o;have:=t.o;rw[IntWalk.wrap64_in _ (by omega)];simp only[intOf];omega);clear l y F a3 a1 b0;go_wp2;go_roundw
      case rel=>exact⟨i+1+1,by have:=t.o;omega,by first|exact P.o|rfl|(congr 1;omega),d7⟩
      case measure=>first|exact Q.o|(have:=t.o;simp only[intOf];omega)
   ·have c8:(j:Int) - 1<0\/(ks.length:Int)<=(j:Int) - 1:=(by omega);have b1:=ae (e0.o wr b.o _ c8);have P:=ae (abL j E.o);have Q:=ae (WQ z E.o);clear z c4 hj;rcases c8 with f3|e9
    have b3:=trivial
    all_goals
     first
      |have b3:=b3
       skip
      |have h0:¬(j:Int) - 1<0:=by omega
       have e8:(((j:Int) - 1)==((ks.length:Nat):Int))=true:=by simp;omega
     go_wp2_with fail;refine b1.o.mono ?_;rintro e w2 ⟨rfl,x⟩;have f:=ae (b.o.trans (x.mono b.o.size));obtain⟨c9,d0⟩:=H.o _ f.o;clear x b1 L M b;go_wp2;go_roundw
     case rel=>exact⟨j+1,t.o,by first|exact P.o|rfl|(congr 1;omega),f⟩
     case measure=>first|exact Q.o|(have:=t.o;simp only[intOf];omega)
  ·have f0:¬(j:Int) - 1<=(ks.length:Nat):=(by omega);have HE:=b;clear z;go_wp2;go_ret;exact⟨rfl,HE.o⟩
end
def HY (w0:World) (p pf:Nat) (nm:J.B) (u q g c:Nat) (fs:List (Nat×Obj)) (E:List Nat) (D B:X.M) (L:List (List (J.B×J.B))) (w:World):Prop:=∃v l,fK w0 p pf nm u q g c fs E D B L v l w
def One (L L':List (List (J.B×J.B))):Prop:=L'=L\/∃c,L'=L++[c]
def nJ (w0:World) (p pf:Nat) (nm:J.B) (u q g c:Nat) (fs:List (Nat×Obj)) (E:List Nat) (D B:X.M) (L:List (List (J.B×J.B))) (w':World):Prop:=∃L',One L L'/\HY w0 p pf nm (u+1) q g c fs E D B L' w'
section
variable {w0 : World} {p pf q g c : Nat} {nm : J.B} {u F : Nat} {fs gs : List (Nat × Obj)} {E : List Nat} {D G B I : X.M} {L : List (List (J.B × J.B))} {w w' : World}
theorem HY.below (h:HY w0 p pf nm u q g c fs E D B L w) (a:Below w.heap.size w w'):HY w0 p pf nm u q g c fs E D B L w':=by
 obtain⟨v,l,h⟩:=h;exact⟨v,l,h.below a⟩
theorem HY.cJ (h:HY w0 p pf nm u q g c fs E D B L w) (b:∀x∈gs,x∈fs) (a:∀d∈E,∃y∈gs,y.1=d):HY w0 p pf nm u q g c gs E D B L w:=by
 obtain⟨v,l,h⟩:=h;exact⟨v,l,h.cJ b a⟩
theorem HY.add (h:HY w0 p pf nm u q g c fs E D B L w) (a:Below w.heap.size w w') (b:∀x∈gs,w.heap.size<=x.1/\w'.heap[x.1]? =some x.2):HY w0 p pf nm u q g c (gs++fs) E D B L w':=by
 obtain⟨v,l,h⟩:=h;exact⟨v,l,h.add a b⟩
theorem HY.get (h:HY w0 p pf nm u q g c fs E D B L w) {x:Nat×Obj} (a:x∈fs):w.heap[x.1]? =some x.2:=by
 obtain⟨v,l,h⟩:=h;exact h.get a
theorem HY.bel (h:HY w0 p pf nm u q g c fs E D B L w):Below w0.heap.size w0 w:=by
 obtain⟨v,l,h⟩:=h;exact h.bel
theorem HY.row (h:HY w0 p pf nm u q g c fs E D B L w):∃v,w.heap[q]? =some (gz B g c v):=by
 obtain⟨v,l,h⟩:=h;exact⟨v,h.row⟩
theorem HY.mok (h:HY w0 p pf nm u q g c fs E D B L w):X.fg u D:=by
 obtain⟨v,l,ko,rb,⟨s,f,g,c,ok,h⟩,_⟩:=h;exact h.kp.mok
theorem HY.Ni (h:HY w0 p pf nm u q g c fs E D B L w):∀d∈E,∃y∈fs,y.1=d:=by
 obtain⟨v,l,ko,rb,_,_,_,_,_,_,h⟩:=h;exact h
theorem HY.mono (h:HY w0 p pf nm u q g c fs E D B L w) (b:u<=F):HY w0 p pf nm F q g c fs E D B L w:=by
 obtain⟨v,l,ko,rb,h,a⟩:=h;exact⟨v,l,ko,rb,h.mono b,a⟩
theorem nJ.cJ (h:nJ w0 p pf nm u q g c fs E D B L w) (e:∀x∈gs,x∈fs) (b:∀d∈E,∃y∈gs,y.1=d):nJ w0 p pf nm u q g c gs E D B L w:=by
 obtain⟨L',h1,a⟩:=h;exact⟨L',h1,a.cJ e b⟩
theorem nJ.below (h:nJ w0 p pf nm u q g c fs E D B L w) (b:Below w.heap.size w w'):nJ w0 p pf nm u q g c fs E D B L w':=by
 obtain⟨L',h1,a⟩:=h;exact⟨L',h1,a.below b⟩
theorem HY.file (h:HY w0 p pf nm u q g c fs E D B L w):∃ks:List (Nat×Obj),(∀x∈fs,x∈ks)/\IK w0 p pf nm u ks D L w/\∀(G:X.M) (w':World),FH w0 p pf nm u ks G L w'->nJ w0 p pf nm u q g c fs E G B L w':=by
 obtain⟨v,l,h⟩:=h;obtain⟨ks,h1,a,b⟩:=h.file;refine⟨ks,h1,a,λG w' ⟨L',d,h⟩=>⟨L',d,v,l,b _ _ _ _ h⟩⟩
theorem WS (h:HY w0 p pf nm u q g c fs E D B L w) (i:u<=340) (f:X.Bd nm D.ks D.size u) (md:Nat) (a:Bool):
  Calls Tryz.prog 12 #[.pointer (some ⟨pf,0,none⟩), .int .u8 (md:Nat), .bool a] w λe w'=>e= .returned (.string ⟨(D.open md a).2.toArray⟩)/\nJ w0 p pf nm u q g c fs E (D.open md a).1 B L w':=by
 obtain⟨ks,_,b,d⟩:=h.file;refine(Kk b i f md a).mono ?_;rintro e w' ⟨rfl,h⟩;exact⟨rfl,d _ _ h⟩
theorem SD (h:HY w0 p pf nm u q g c fs E D B L w):
  Calls Tryz.prog 17 #[.pointer (some ⟨pf,0,none⟩)] w λe w'=>e= .returned (.string ⟨D.close.2.toArray⟩)/\nJ w0 p pf nm u q g c fs E D.close.1 B L w':=by
 obtain⟨ks,_,a,b⟩:=h.file;refine(EE a).mono ?_;rintro e w' ⟨rfl,h⟩;exact⟨rfl,b _ _ h⟩
theorem WT (h:HY w0 p pf nm u q g c fs E D B L w) (f:u<=340):
  Calls Tryz.prog 20 #[.pointer (some ⟨pf,0,none⟩)] w λe w'=>∃v,e= .returned (.tuple #[v, .string ⟨D.next.2.2.toArray⟩])/\bT w' (· <w.heap.size) v (D.next.2.1.getD [])/\nJ w0 p pf nm u q g c fs E D.next.1 B L w':=by
 obtain⟨ks,_,a,b⟩:=h.file;refine(Kh a f).mono ?_;rintro e w' ⟨v,rfl,d,h⟩;exact⟨v,rfl,d,b _ _ h⟩
theorem WU (h:HY w0 p pf nm u q g c fs E D B L w) (j:u<=340) (k:Int) (v:Value) (b:J.B) (l:Src w0 p fs v b) (f:b.length<=1000000):
  Calls Tryz.prog 25 #[.pointer (some ⟨pf,0,none⟩), .int .i64 k,v] w λe w'=>∃v,e= .returned (.tuple #[v, .string ⟨(D.get k b).2.2.toArray⟩])/\bT w' (· <w.heap.size) v ((D.get k b).2.1.getD [])/\nJ w0 p pf nm u q g c fs E (D.get k b).1 B L w':=by
 obtain⟨ks,h1,a,d⟩:=h.file;refine(Ki a j k v b (l.sub h1) f).mono ?_;rintro e w' ⟨v,rfl,i,h⟩;exact⟨v,rfl,i,d _ _ h⟩
theorem SE (h:HY w0 p pf nm u q g c fs E D B L w) (f:u<=340) (v:Value) (b:J.B) (i:Src w0 p fs v b):
  Calls Tryz.prog 15 #[.pointer (some ⟨pf,0,none⟩),v] w λe w'=>e= .returned (.string ⟨(D.write b).2.toArray⟩)/\nJ w0 p pf nm u q g c fs E (D.write b).1 B L w':=by
 obtain⟨ks,h1,a,d⟩:=h.file;refine(EG a f v b (i.sub h1)).mono ?_;rintro e w' ⟨rfl,h⟩;exact⟨rfl,d _ _ h⟩
theorem IU (h:HY w0 p pf nm u q g c fs E D B L w) (f:u<=340) (v:Value) (b:J.B) (i:Src w0 p fs v b):
  Calls Tryz.prog 26 #[.pointer (some ⟨pf,0,none⟩),v] w λe w'=>e= .returned (.string ⟨(D.rewrite b).2.toArray⟩)/\nJ w0 p pf nm u q g c fs E (D.rewrite b).1 B L w':=by
 obtain⟨ks,h1,a,d⟩:=h.file;refine(xt a f v b (i.sub h1)).mono ?_;rintro e w' ⟨rfl,h⟩;exact⟨rfl,d _ _ h⟩
theorem Nj (h:HY w0 p pf nm u q g c fs E D B L w) (i:u<=340) (v:Value) (b:J.B) (j:Src w0 p fs v b) (f:b.length<=1000000):
  Calls Tryz.prog 27 #[.pointer (some ⟨pf,0,none⟩),v] w λe w'=>e= .returned (.string ⟨(D.delete b).2.toArray⟩)/\nJ w0 p pf nm u q g c fs E (D.delete b).1 B L w':=by
 obtain⟨ks,h1,a,d⟩:=h.file;refine(zL a i v b (j.sub h1) f).mono ?_;rintro e w' ⟨rfl,h⟩;exact⟨rfl,d _ _ h⟩
theorem SF (h:HY w0 p pf nm u q g c fs E D B L w) (i:u<=340) (k:Int) (r:Nat) (f:r<=5) (v:Value) (b:J.B) (j:Src w0 p fs v b):
  Calls Tryz.prog 19 #[.pointer (some ⟨pf,0,none⟩), .int .i64 k, .int .u8 (r:Nat),v] w λe w'=>e= .returned (.string ⟨(D.start k r b).2.toArray⟩)/\nJ w0 p pf nm u q g c fs E (D.start k r b).1 B L w':=by
 obtain⟨ks,h1,a,d⟩:=h.file;refine(EF a i k r f v b (j.sub h1)).mono ?_;rintro e w' ⟨rfl,h⟩;exact⟨rfl,d _ _ h⟩
theorem HY.afB (h:HY w0 p pf nm u q g c fs E D B L w):uF w q:=by
 obtain⟨v,l,h⟩:=h;have a:=h.row;obtain⟨ko,rb,h1,_,b,_⟩:=h;have d:∀x∈rb,w.heap[x.1]? =some x.2:=λx f=>h1.get (ag _ (ag _ (List.mem_append_left _ f)));obtain⟨i,j,e⟩:=b.sl d;rw[e]at a;exact Ks a
theorem SG (h:HY w0 p pf nm u q g c fs E D B L w) (b:X.fg F B) (j:F<=1000) (md:Nat) (a:Bool):
  Calls Tryz.prog 13 #[.pointer (some ⟨q,0,none⟩), .int .u8 (md:Nat), .bool a] w λe w'=>e= .returned (.string ⟨(B.open md a).2.toArray⟩)/\HY w0 p pf nm u q g c fs E D (B.open md a).1 L w':=by
 obtain⟨v,l,h⟩:=h;obtain⟨M,h1,d,f,_⟩:=h.model;refine(MZ d h1 (bY.of (size:=B.size) d b.rows b.ks (by have:=b.many;omega)) md a).mono ?_;rintro e w' ⟨rfl,v',l',i⟩;exact⟨rfl,v',l',f _ _ _ _ (X.qs B md a).1 i⟩
theorem SH (h:HY w0 p pf nm u q g c fs E D B L w) (a:X.fg F B) (i:F<=1000):
  Calls Tryz.prog 68 #[.pointer (some ⟨q,0,none⟩)] w λe w'=>e= .returned (.tuple #[.string ⟨(B.next.2.1.getD []).toArray⟩, .string ⟨B.next.2.2.toArray⟩])/\HY w0 p pf nm u q g c fs E D B.next.1 L w'/\w.grownBy w' (some q):=by
 obtain⟨v,l,h⟩:=h;obtain⟨M,h1,b,f,_⟩:=h.model;refine(MJ b h1 (bY.of (size:=B.size) b a.rows a.ks (by have:=a.many;omega)) a.rows a.key).mono ?_;rintro e w' ⟨rfl,d⟩;exact⟨rfl,⟨v,l,f _ _ _ _ (X.qu B) d⟩,d.1⟩
theorem WX (h:HY w0 p pf nm u q g c fs E D B L w) (a:X.fg F B) (m:F<=1000) (k:Int) (b:J.B) (j:b.length<=1000000):
  Calls Tryz.prog 69 #[.pointer (some ⟨q,0,none⟩), .int .i64 k, .string ⟨b.toArray⟩] w λe w'=>e= .returned (.tuple #[.string ⟨((B.get k b).2.1.getD []).toArray⟩, .string ⟨(B.get k b).2.2.toArray⟩])/\HY w0 p pf nm u q g c fs E D (B.get k b).1 L w'/\w.grownBy w' (some q):=by
 obtain⟨v,l,h⟩:=h;obtain⟨M,h1,d,i,_⟩:=h.model;refine(Rc d h1 (bY.of (size:=B.size) d a.rows a.ks (by have:=a.many;omega)) a.rows k b j).mono ?_;rintro e w' ⟨rfl,f⟩;exact⟨rfl,⟨v,l,i _ _ _ _ (X.zN B k b) f⟩,f.1⟩
theorem Nk (h:HY w0 p pf nm u q g c fs E D B L w) (a:X.fg F B) (k:F<=1000) (b:J.B) (i:b.length<=1000000):
  Calls Tryz.prog 16 #[.pointer (some ⟨q,0,none⟩), .string ⟨b.toArray⟩] w λe w'=>e= .returned (.string ⟨(B.write b).2.toArray⟩)/\HY w0 p pf nm u q g c fs E D (B.write b).1 L w':=by
 obtain⟨v,l,h⟩:=h;obtain⟨M,h1,d,f,_⟩:=h.model;refine(Ig d h1 (bY.of (size:=B.size) d a.rows a.ks (by have:=a.many;omega)) (by have:=a.time;omega) b i).mono ?_;rintro e w' ⟨rfl,v',l',j⟩;exact⟨rfl,v',l',f _ _ _ _ (X.eZ B b).1 j⟩
theorem Fb (h:HY w0 p pf nm u q g c fs E D B L w) (a:X.fg F B) (o:F<=1000) (b:J.B) (j:b.length<=1000000):
  Calls Tryz.prog 70 #[.pointer (some ⟨q,0,none⟩), .string ⟨b.toArray⟩, .bool false] w λe w'=>e= .returned (.string ⟨(B.rewrite b).2.toArray⟩)/\HY w0 p pf nm u q g c fs E D (B.rewrite b).1 L w':=by
 obtain⟨v,l,h⟩:=h;obtain⟨M,h1,d,i,_⟩:=h.model;have k:=bY.of (size:=B.size) d a.rows a.ks (by have:=a.many;omega);have m:Calls Tryz.prog 70 #[.pointer (some ⟨q,0,none⟩), .string ⟨b.toArray⟩, .bool false] w (JX w q g c M B b):=by
  by_cases f:X.bP [52,57] [3] B.mode=X.good
  ·exact aaO d h1 k a.rows (by have:=a.time;omega) b j f
  ·exact Vz d b f
 refine m.mono ?_;unfold JX;rintro e w' ⟨rfl,v',l',n⟩;exact⟨rfl,v',l',i _ _ _ _ (X.px B b) n⟩
theorem IV (h:HY w0 p pf nm u q g c fs E D B L w) (a:X.fg F B) (o:F<=1000) (b:J.B) (j:b.length<=1000000):
  Calls Tryz.prog 70 #[.pointer (some ⟨q,0,none⟩), .string ⟨b.toArray⟩, .bool true] w λe w'=>e= .returned (.string ⟨(B.delete b).2.toArray⟩)/\HY w0 p pf nm u q g c fs E D (B.delete b).1 L w':=by
 obtain⟨v,l,h⟩:=h;obtain⟨M,h1,d,i,_⟩:=h.model;have k:=bY.of (size:=B.size) d a.rows a.ks (by have:=a.many;omega);have m:Calls Tryz.prog 70 #[.pointer (some ⟨q,0,none⟩), .string ⟨b.toArray⟩, .bool true] w (Re w q g c M B b):=by
  by_cases f:X.bP [52,57] [3] B.mode=X.good
  ·exact aaT d h1 k a.rows b j f
  ·exact VC d b f
 refine m.mono ?_;unfold Re;rintro e w' ⟨rfl,v',l',n⟩;exact⟨rfl,v',l',i _ _ _ _ (X.delete_keeps B b) n⟩
theorem Nl (h:HY w0 p pf nm u q g c fs E D B L w) (a:X.fg F B) (j:F<=1000) (k:Int) (r:Nat) (d:r<=5) (b:J.B):
  Calls Tryz.prog 71 #[.pointer (some ⟨q,0,none⟩), .int .i64 k, .int .u8 (r:Nat), .string ⟨b.toArray⟩] w λe w'=>e= .returned (.string ⟨(B.start k r b).2.toArray⟩)/\HY w0 p pf nm u q g c fs E D (B.start k r b).1 L w':=by
 obtain⟨v,l,h⟩:=h;obtain⟨M,h1,f,i,_⟩:=h.model;refine(Ix f h1 (bY.of (size:=B.size) f a.rows a.ks (by have:=a.many;omega)) k r d b).mono ?_;rintro e w' ⟨rfl,d⟩;exact⟨rfl,v,l,i _ _ _ _ (X.uz B k r b) d⟩
theorem SJ (h:HY w0 p pf nm u q g c fs E D B L w):HY w0 p pf nm u q g c fs E D {B with mode:=0} L (w.setCell ⟨q,6,none⟩ (.int .u8 0)):=by
 obtain⟨v,l,h⟩:=h;obtain⟨M,h1,a,b,_⟩:=h.model;exact⟨v,l,b {B with mode:=0} _ _ _ rfl (HR.set (fz a) 6 _ (aB a.row 6 _) rfl rfl)⟩
theorem mq {a n cb:Nat} {b:J.B} {o:Obj} (g:Sl w bE (.slice (some ⟨a,0,none⟩) n cb) b) (i:w.heap[a]? =some o) (f:(a,o)∈fs):Src w0 p fs (.slice (some ⟨a,0,none⟩) n cb) b:=by
 by_cases c:b=[]
 ·subst c;rcases g with⟨A,e,_⟩|⟨b',o',c',e,h1,_⟩
  ·exactλgs t w1 d ha=> .inl ⟨A,e,rfl⟩
  ·injection e with e1 e2 e3;injection e1 with e1;injection e1 with e1 e4;subst e1 e2 e3 e4;exactλgs t w1 d ha=> .inr ⟨_,0,_,rfl,h1,(ai (ha.get (d _ f))).1,rfl,λh=>absurd h (Nat.lt_irrefl 0)⟩
 ·exact Kr g c i f
end
namespace X
def Ac.k (a:Ac):Int:=((a.key%5:Nat):Int) - 1
def M.does (m:M) (a:Ac) (od:Bool):M:=
 match a.what%12 with
 |0=>(m.open (a.n%6) od).1
 |1=>(m.open (a.n%6) od).1
 |2=>m.close.1
 |3=>m.next.1
 |4=>m.next.1
 |5=>(m.get a.k (rc a.val)).1
 |6=>(m.write (rc a.val)).1
 |7=>(m.write (rc a.val)).1
 |8=>(m.write (rc a.val)).1
 |9=>(m.rewrite (rc a.val)).1
 |10=>(m.delete (rc a.val)).1
 |_=>(m.start a.k (a.n%6) ((rc a.val).take (a.n/6%4))).1
theorem pP {m:M} (h:m.mode=0):({m with mode:=0}:M)=m:=by
 cases m
 simp only at h;subst h;rfl
end X
abbrev cC (what key n:Nat) (Av:Option Addr) (k cv:Nat):Obj:= .cells #[.int .u8 what, .int .u8 key, .int .u8 n, .slice Av k cv] 60
structure rU (w0:World) (p pf:Nat) (nm:J.B) (u q g c:Nat) (fs:List (Nat×Obj)) (ds:List Nat) (m:X.M) (L:List (List (J.B×J.B))) (n:Nat) (Av:Option Addr) (cv:Nat) (b:J.B) (w:World):Prop where
 h:HY w0 p pf nm u q g c fs ds m m L w
 bd:X.Bd nm m.ks m.size u
 ub:u<=340
 sl:Sl w bE (.slice Av b.length cv) b
 bl:b.length<=1000000
 n:n<256
def Nn (w0:World) (p pf:Nat) (nm:J.B) (u q g c:Nat) (fs:List (Nat×Obj)) (ds:List Nat) (m':X.M) (L:List (List (J.B×J.B))) (e:Ending) (w':World):Prop:=
 e= .returned (.bool true)/\nJ w0 p pf nm u q g c fs ds m' m' L w'
theorem bT.shape {w:World} {v:Value} {M:Nat->Prop} {l:J.B} (h:bT w M v l):∃A,v= .slice A l.length l.length/\By w M A l.length l:=by
 rcases h with⟨rfl,rfl⟩|⟨b,o,rfl,_,_,_,a⟩
 ·exact⟨none,rfl,By.dV⟩
 ·exact⟨_,rfl,a⟩
theorem SK {w w':World} {q:Nat} {v:Value} {M:Nat->Prop} {l:J.B} (h:bT w M v l) (a:w.grownBy w' (some q)) (b:uF w q):∃A,v= .slice A l.length l.length/\By w' bE A l.length l:=by
 have h1:bT w bE v l:=h.weak (λ_ h=>h.elim);exact(h1.oth (Ai.bg a (λk e=>by injection e with e;subst e;exact⟨λh=>h,b⟩))).shape
theorem kV {W:World} {base n:Nat} {v:Value} {l:J.B} (h:W.ownsRow base 5 1 v n (dK l)) (j:v≠ .slice none 0 0):
  l.length=n/\∃a cb o,v= .slice (some ⟨a,0,none⟩) n cb/\n<=cb/\base<=a/\W.heap[a]? =some o/\Sl W bE (.slice (some ⟨a,0,none⟩) n cb) l/\By W bE (some ⟨a,0,none⟩) n l:=by
 obtain⟨A,c,e,k,b⟩:=gl (M:=bE) h (λ_ h=>h.elim);rcases h.2 with⟨e2,_⟩|⟨a,cap,cur,rfl,g,d,f,_⟩
 ·exact absurd e2 j
 ·injection e with e1 e2 e3;subst e1 e3;have i:=b.1;subst i;exact⟨rfl,a,_,_,rfl,f,g,d, .inr ⟨a,0,_,rfl,f,(ai d).1,b⟩,b⟩
theorem IW {w W:World} {a n:Nat} {o:Obj} {l:J.B} (h:By w bE (some ⟨a,0,none⟩) n l) (h1:w.heap[a]? =some o) (b:W.heap[a]? =some o):By W bE (some ⟨a,0,none⟩) n l:=
 ⟨h.1,λf=>by
  obtain⟨b',o',e,i,g,c⟩:=h.2 f;injection e with e;injection e with e1 e2;subst e1 e2;exact⟨_,0,rfl,(ai b).1,λh=>h,λj d=>(World.cell?_of_block (b.trans h1.symm)).trans (c j d)⟩⟩
theorem afC {W:World} {a j cb:Nat} {l:J.B} (h:By W bE (some ⟨a,0,none⟩) j l) (c:j<=cb) (b:a<W.heap.size):Sl W bE (.slice (some ⟨a,0,none⟩) j cb) l:=by
 have d:=h.1;subst d;exact .inr ⟨a,0,_,rfl,c,b,h⟩
section
variable {w0 : World} {p pf q g c u : Nat} {nm : J.B} {fs : List (Nat × Obj)} {B : List Nat} {m : X.M} {L : List (List (J.B × J.B))}
theorem SL:(∀{w0:World} {p pf q g c u:Nat} {nm:J.B} {fs:List (Nat×Obj)} {B:List Nat} {m:X.M} {L:List (List (J.B×J.B))} (what key n:Nat) (a:Option Addr) (d:Nat) (b:J.B) (f:Bool) (w:World) (i:rU w0 p pf nm u q g c fs B m L n a d b w) (H:(what:Int).tmod 12=0),Calls Tryz.prog 22 #[.pointer (some ⟨pf,0,none⟩), .pointer (some ⟨q,0,none⟩), .agg #[.int .u8 what, .int .u8 key, .int .u8 n, .slice a b.length d], .bool f] w (Nn w0 p pf nm u q g c fs B (m.open (n%6) f).1 L))/\(∀{w0:World} {p pf q g c u:Nat} {nm:J.B} {fs:List (Nat×Obj)} {B:List Nat} {m:X.M} {L:List (List (J.B×J.B))} (what key n:Nat) (a:Option Addr) (d:Nat) (b:J.B) (f:Bool) (w:World) (i:rU w0 p pf nm u q g c fs B m L n a d b w) (H:(what:Int).tmod 12=1),Calls Tryz.prog 22 #[.pointer (some ⟨pf,0,none⟩), .pointer (some ⟨q,0,none⟩), .agg #[.int .u8 what, .int .u8 key, .int .u8 n, .slice a b.length d], .bool f] w (Nn w0 p pf nm u q g c fs B (m.open (n%6) f).1 L)):=by
 refine⟨?z0, ?z1⟩
 case' z0=>intro w0 p pf q g c u nm fs B m L what key n a d b f w i H
 case' z1=>(intro w0 p pf q g c u nm fs B m L what key n a d b f w i H;have b1:=trivial)
 all_goals
  have r6:(n:Int).tmod 6=((n%6:Nat):Int):=rfl;have a4:n%6<6:=Nat.mod_lt _ (by decide);generalize n%6=k at a4 r6|-;have b2:IntKind.u8.wrap (k:Int)=k:=(by rw[IntKind.wrap_u8];omega);have E:=heap_alloc_new w (cC what key n a b.length d);have D:=(ak w.heap.size w).alloc (aq _) (cC what key n a b.length d);have F:=aj _ w.heap.size E;have I:=ae E;have s:=ae D;have M:=ae (kU _ b bE (w.alloc (cC what key n a b.length d)) (i.sl.step (Step.aC D)) i.bl);have t:=ae i;have a3:=ae i.h.Ni;have HN:=ae i.n;clear i E D;go_enter Tryz.func22,Tryz.ntmps22;go_wp2_with fail;refine M.o.mono ?_;rintro e w1 ⟨v',rfl,a0,Z,C⟩;obtain⟨a5,v,cb,o,rfl,V,Y,l,a1,U⟩:=kV a0 Z;have G:=bu C I.o;have T:=s.o.trans (C.mono s.o.size);have z:aa (HY w0 p pf nm u q g c ((v,o)::(w.heap.size,(cC what key n a b.length d))::fs) B m m L w1):=ae ((t.o.h.add T (gs:=[(v,o),(w.heap.size,(cC what key n a b.length d))]) (λx y=>by
   simp only[List.mem_cons,List.not_mem_nil,or_false]at y;rcases y with rfl|rfl
   ·exact⟨aw s.o.size Y,l⟩
   ·exact⟨aq _,G⟩)))
  clear F;have F:=aj w1 w.heap.size G;have b0:=ae (mq (w0:=w0) (p:=p) (fs:=(v,o)::(w.heap.size,(cC what key n a b.length d))::fs) a1 l af);have a6:=ae U;have a7:=ae (And.intro V (ai l).1);have N:=ae t.o.ub;have a2:=ae t.o.bd;have a9:=ae (show(rc b).length<=7 from tO b);have K:aa (∀(m':X.M) (W:World),nJ w0 p pf nm u q g c ((v,o)::(w.heap.size,(cC what key n a b.length d))::fs) B m' m' L W->nJ w0 p pf nm u q g c fs B m' m' L W):=ae (λm' W h=>h.cJ (λx y=>ag _ (ag _ y)) a3.o);have a8:=ae l;generalize w.heap.size=bx at*;clear a0 Z C V Y a1 U G T t s I M l a5;generalize rc b=r at*;go_wp2_with fail;refine(WS z.o N.o a2.o k f).mono ?_;rintro e w2 ⟨rfl,L',S,O⟩;have HL:=ae S;have A:=ae (SG O z.o.mok (by have:=N.o;omega) k f);obtain⟨m',st,Q⟩:∃m' st,m.open k f=(m',st):=⟨_,_,rfl⟩;rw[Q]at A;clear O S F z;go_wp2_with fail;refine A.o.mono ?_;rintro e w3 ⟨rfl,P⟩;have H3:=ae (K.o _ _ ⟨L',HL.o,P⟩);clear P A K;go_wp2;go_ret;exact⟨rfl,by rw[Q];exact H3.o⟩
abbrev SN:= @SL.1
abbrev SP:= @SL.2
theorem SQ (what key n:Nat) (a:Option Addr) (d:Nat) (b:J.B) (od:Bool) (w:World) (i:rU w0 p pf nm u q g c fs B m L n a d b w) (hw:(what:Int).tmod 12=2):
  Calls Tryz.prog 22 #[.pointer (some ⟨pf,0,none⟩), .pointer (some ⟨q,0,none⟩), .agg #[.int .u8 what, .int .u8 key, .int .u8 n, .slice a b.length d], .bool od] w (Nn w0 p pf nm u q g c fs B m.close.1 L):=by
 have E:=heap_alloc_new w (cC what key n a b.length d);have D:=(ak w.heap.size w).alloc (aq _) (cC what key n a b.length d);have S:=aj _ w.heap.size E;have H:=ae E;have t:=ae D;have M:=ae (kU _ b bE (w.alloc (cC what key n a b.length d)) (i.sl.step (Step.aC D)) i.bl);have v:=ae i;have a0:=ae i.h.Ni;have HN:=ae i.n;clear i E D;go_enter Tryz.func22,Tryz.ntmps22;go_wp2_with fail;refine M.o.mono ?_;rintro e w1 ⟨v',rfl,Y,V,C⟩;obtain⟨a2,f,cb,o,rfl,T,U,s,Z,Q⟩:=kV Y V;have F:=bu C H.o;have P:=t.o.trans (C.mono t.o.size);have z:aa (HY w0 p pf nm u q g c ((f,o)::(w.heap.size,(cC what key n a b.length d))::fs) B m m L w1):=ae ((v.o.h.add P (gs:=[(f,o),(w.heap.size,(cC what key n a b.length d))]) (λx y=>by
  simp only[List.mem_cons,List.not_mem_nil,or_false]at y;rcases y with rfl|rfl
  ·exact⟨aw t.o.size U,s⟩
  ·exact⟨aq _,F⟩)))
 clear S;have S:=aj w1 w.heap.size F;have a8:=ae (mq (w0:=w0) (p:=p) (fs:=(f,o)::(w.heap.size,(cC what key n a b.length d))::fs) Z s af);have a4:=ae Q;have a5:=ae (And.intro T (ai s).1);have HU:=ae v.o.ub;have a3:=ae v.o.bd;have a7:=ae (show(rc b).length<=7 from tO b);have K:aa (∀(m':X.M) (W:World),nJ w0 p pf nm u q g c ((f,o)::(w.heap.size,(cC what key n a b.length d))::fs) B m' m' L W->nJ w0 p pf nm u q g c fs B m' m' L W):=ae (λm' W h=>h.cJ (λx y=>ag _ (ag _ y)) a0.o);have a6:=ae s;generalize w.heap.size=bx at*;clear Y V C T U Z Q F P v t H M s a2;generalize rc b=r at*;obtain⟨vq,G⟩:=z.o.row;have a9:=aj w1 q G;have b0:=aD G;clear G;by_cases l:m.mode=0
 have N:=trivial
 all_goals
  first
   |have N:=N
    have a1:¬(0:Int)<(m.mode:Nat):=(by omega);have I:aa (∀W,nJ w0 p pf nm u q g c ((f,o)::(bx,cC what key n a b.length d)::fs) B m.close.1 {m with mode:=0} L W->nJ w0 p pf nm u q g c ((f,o)::(bx,cC what key n a b.length d)::fs) B m.close.1 m.close.1 L W):=ae (λW h=>by
     have e:m.close.1=m:=(by unfold X.M.close;rw[if_pos l]);rw[e]at h|-;rw[X.pP l]at h;exact h)
    have hst:m.close.2=[52,50]:=by unfold X.M.close;rw[if_pos l]
    skip
   |have a1:(0:Int)<(m.mode:Nat):=by omega
    have I:aa (∀W,nJ w0 p pf nm u q g c ((f,o)::(bx,cC what key n a b.length d)::fs) B m.close.1 {m with mode:=0} L W->nJ w0 p pf nm u q g c ((f,o)::(bx,cC what key n a b.length d)::fs) B m.close.1 m.close.1 L W):=ae (λW h=>by
     have e:m.close.1={m with mode:=0}:=(by unfold X.M.close;rw[if_neg l]);rw[e]at h|-;exact h)
    have hst:m.close.2=[48,48]:=by unfold X.M.close;rw[if_neg l]
  go_wp2_with fail;have A:=SJ z.o;generalize w1.setCell ⟨q,6,none⟩ (.int .u8 0)=w2 at A|-;have k:=SD A;rw[hst]at k;replace k:=ae k;clear A z;go_wp2_with fail;refine k.o.mono ?_;rintro e w3 ⟨rfl,O⟩;have H3:=ae (K.o _ _ (I.o _ O));clear O k K;go_wp2;go_ret;exact⟨rfl,H3.o⟩
theorem SR:(∀{w0:World} {p pf q g c u:Nat} {nm:J.B} {fs:List (Nat×Obj)} {B:List Nat} {m:X.M} {L:List (List (J.B×J.B))} (what key n:Nat) (a:Option Addr) (d:Nat) (b:J.B) (t:Bool) (w:World) (f:rU w0 p pf nm u q g c fs B m L n a d b w) (O:(what:Int).tmod 12=3),Calls Tryz.prog 22 #[.pointer (some ⟨pf,0,none⟩), .pointer (some ⟨q,0,none⟩), .agg #[.int .u8 what, .int .u8 key, .int .u8 n, .slice a b.length d], .bool t] w (Nn w0 p pf nm u q g c fs B m.next.1 L))/\(∀{w0:World} {p pf q g c u:Nat} {nm:J.B} {fs:List (Nat×Obj)} {B:List Nat} {m:X.M} {L:List (List (J.B×J.B))} (what key n:Nat) (a:Option Addr) (d:Nat) (b:J.B) (t:Bool) (w:World) (f:rU w0 p pf nm u q g c fs B m L n a d b w) (O:(what:Int).tmod 12=4),Calls Tryz.prog 22 #[.pointer (some ⟨pf,0,none⟩), .pointer (some ⟨q,0,none⟩), .agg #[.int .u8 what, .int .u8 key, .int .u8 n, .slice a b.length d], .bool t] w (Nn w0 p pf nm u q g c fs B m.next.1 L)):=by
 refine⟨?z0, ?z1⟩
 case' z0=>intro w0 p pf q g c u nm fs B m L what key n a d b t w f O
 case' z1=>(intro w0 p pf q g c u nm fs B m L what key n a d b t w f O;have b7:=trivial)
 all_goals
  have K:=heap_alloc_new w (cC what key n a b.length d);have I:=(ak w.heap.size w).alloc (aq _) (cC what key n a b.length d);have M:=aj _ w.heap.size K;have S:=ae K;have z:=ae I;have U:=ae (kU _ b bE (w.alloc (cC what key n a b.length d)) (f.sl.step (Step.aC I)) f.bl);have C:=ae f;have a8:=ae f.h.Ni;have HN:=ae f.n;clear f K I;go_enter Tryz.func22,Tryz.ntmps22;go_wp2_with fail;refine U.o.mono ?_;rintro e w1 ⟨v',rfl,a6,a5,H⟩;obtain⟨b0,l,cb,o,rfl,a3,a4,s,a7,a1⟩:=kV a6 a5;have N:=bu H S.o;have a0:=z.o.trans (H.mono z.o.size);have E:aa (HY w0 p pf nm u q g c ((l,o)::(w.heap.size,(cC what key n a b.length d))::fs) B m m L w1):=ae ((C.o.h.add a0 (gs:=[(l,o),(w.heap.size,(cC what key n a b.length d))]) (λx D=>by
   simp only[List.mem_cons,List.not_mem_nil,or_false]at D;rcases D with rfl|rfl
   ·exact⟨aw z.o.size a4,s⟩
   ·exact⟨aq _,N⟩)))
  clear M;have M:=aj w1 w.heap.size N;have b6:=ae (mq (w0:=w0) (p:=p) (fs:=(l,o)::(w.heap.size,(cC what key n a b.length d))::fs) a7 s af);have b2:=ae a1;have b3:=ae (And.intro a3 (ai s).1);have Y:=ae C.o.ub;have b1:=ae C.o.bd;have b5:=ae (show(rc b).length<=7 from tO b);have T:aa (∀(m':X.M) (W:World),nJ w0 p pf nm u q g c ((l,o)::(w.heap.size,(cC what key n a b.length d))::fs) B m' m' L W->nJ w0 p pf nm u q g c fs B m' m' L W):=ae (λm' W h=>h.cJ (λx D=>ag _ (ag _ D)) a8.o);have b4:=ae s;generalize w.heap.size=bx at*;clear a6 a5 H a3 a4 a7 a1 N a0 C z S U s b0;generalize rc b=r at*;go_wp2_with fail;refine(WT E.o Y.o).mono ?_;rintro e Q ⟨v,rfl,i,L',hL,F⟩;have HL:=ae hL;have k:=ae (SH F E.o.mok (by have:=Y.o;omega));have a9:=ae F.afB;obtain⟨m',y,P,G⟩:∃m' y P,m.next=(m',y,P):=⟨_,_,_,rfl⟩;rw[G]at k;rw[G]at i;replace i:bT Q _ v (y.getD []):=i;replace k:aa (Calls _ _ _ Q λe w'=>e= .returned (.tuple #[.string ⟨(y.getD []).toArray⟩, .string ⟨P.toArray⟩])/\HY w0 p pf nm (u+1) q g c ((l,o)::(bx,cC what key n a b.length d)::fs) B m' m' L' w'/\Q.grownBy w' (some q)):=k;generalize y.getD []=xl at k i;obtain⟨A,rfl,_⟩:=i.shape;have V:=ae i;clear F hL i;clear M E;go_wp2_with fail;refine k.o.mono ?_;rintro e w3 ⟨rfl,Z,hg⟩;obtain⟨A3,e3,a2⟩:=SK V.o hg a9.o;injection e3 with e3;subst e3;have b8:=bL (c:=xl.length) a2;have H3:=ae (T.o _ _ ⟨L',HL.o,Z⟩);clear Z hg a2 T V;go_wp2;go_ret;exact⟨rfl,by rw[G];exact H3.o⟩
abbrev SS:= @SR.1
abbrev SU:= @SR.2
end
end Go.Proofs.YtipljcmmokaokaaGreat
