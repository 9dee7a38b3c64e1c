import Derived.Test.YtipljcmmokaokaaGreatQ14
set_option linter.unusedVariables false
set_option linter.unusedSimpArgs false
set_option maxHeartbeats 40000000
namespace Go.Proofs.YtipljcmmokaokaaGreat
open Go.RowKit Go.Lib Go.Maps Go.WideMaps Go.Sort
set_option maxRecDepth 100000
noncomputable def aaK:Code:=(Tryz.f16.body.bind (jG 7)).getD .skip
theorem aiG {f:World} {q g c:Nat} {m:X.M} {v:Value} {S VK k:ByteArray} {Q:Exit->Act->World->Prop} (hQ:∀c a d v w,Q (.panic c) (Act.put a d v) w->Q (.panic c) a w) (s:aa (∀w',Below f.heap.size f w'->w'.heap[q]? =some (.cells #[.string ⟨#[102]⟩, .int .i64 (m.size:Nat), .slice (some ⟨g,0,none⟩) m.ks.length c, .bool m.there,v, .int .i64 (m.time:Nat), .int .u8 (m.mode:Nat), .bool m.ord, .int .i64 (m.key:Nat), .bool m.lost, .string ⟨m.value.toArray⟩, .int .i64 (m.at_:Nat), .bool m.same, .string ⟨m.last.toArray⟩, .bool m.read, .string k] 34 (0,0)))) (b1:aa (∀W,Below f.heap.size f W->Calls Tryz.prog 52 #[.pointer (some ⟨q,0,none⟩), .int .i64 0, .string S] W λe w'=>e= .returned (.string VK)/\Below W.heap.size W w')) (n:Bool) (e:n=(m.ord&&(((m.mode:Int) !=3)&&(Op.bytesLess VK.toList k.toList||(VK.toList==k.toList)))))
  (I L M u5 u6 u7 u8 u9 z A B C D E F G H d3 d4 d5 d6 d7 d8 d9 e0 e1 e2 e3 e4 e5 e6 e7 e8 e9 f0 f1 f2 f3 f4 N O P T U V Y Z a0 a1 a2 a3 a4 a5 a6 a7 a8 a9 b0:Value) (h:∀(b2 b3 b4 b5 b6 b7 b8 b9 c0 c1 c2 c3 c4 c5 c6 c7 c8 c9 d0 d1 d2:Value) (W':World),Below f.heap.size f W'->Q .normal (⟨#[.pointer (some ⟨q,0,none⟩), .string S,I,L,M,u5,u6,u7,u8,u9,z,A,B,C,D,E,F,G,H, .bool n,b2,b3,b4,b5,b6,b7,b8,b9,c0,c1,c2,c3,c4,c5,c6,c7,c8,c9,d0,d1,d2,N,O,P,T,U,V,Y,Z,a0,a1,a2,a3,a4,a5,a6,a7,a8,a9,b0],[]⟩:Act) W'):Code.wp Tryz.prog aaK Q (⟨#[.pointer (some ⟨q,0,none⟩), .string S,I,L,M,u5,u6,u7,u8,u9,z,A,B,C,D,E,F,G,H,d3,d4,d5,d6,d7,d8,d9,e0,e1,e2,e3,e4,e5,e6,e7,e8,e9,f0,f1,f2,f3,f4,N,O,P,T,U,V,Y,Z,a0,a1,a2,a3,a4,a5,a6,a7,a8,a9,b0],[]⟩:Act) f:=by
 have h4:(m.ord=false/\n=false)\/(m.ord=true/\((m.mode:Int) !=3)=false/\n=false)\/(m.ord=true/\((m.mode:Int) !=3)=true/\Op.bytesLess VK.toList k.toList=true/\n=true)\/(m.ord=true/\((m.mode:Int) !=3)=true/\Op.bytesLess VK.toList k.toList=false/\(VK.toList==k.toList)=true/\n=true)\/(m.ord=true/\((m.mode:Int) !=3)=true/\Op.bytesLess VK.toList k.toList=false/\(VK.toList==k.toList)=false/\n=false):=by
  rw[e];cases m.ord<;>cases((m.mode:Int) !=3)<;>cases Op.bytesLess VK.toList k.toList<;>cases(VK.toList==k.toList)<;>simp
 clear e;rcases h4 with⟨r,rfl⟩|⟨r,t,rfl⟩|⟨r,t,h1,rfl⟩|⟨r,t,h1,h2,rfl⟩|⟨r,t,h1,h2,rfl⟩
 have o:=trivial;rotate_left;have p:=trivial;rotate_left;have f5:=trivial;rotate_left;have f6:=trivial;rotate_left;rotate_left
 all_goals
  rw[r]at s
  conv=>arg 2;whnf
  have l:aa (Below f.heap.size f f.drew):=ae ((ak _ f).drew);refine wp_region_pe (.rd 0 (.rd 1 (.rd 2 (.rd 3 (.rd 4 (.rd 5 (.rd 6 (.rd 7 (.rd 8 (.rd 9 (.rd 10 (.rd 11 (.rd 12 (.rd 13 (.rd 15 (.rd 16 (.rd 17 (.rd 18 (.wr 14 (.rd 19 (.rd 20 (.rd 21 .fin)))))))))))))))))))))) (λw'=>Below f.heap.size f w') (by kernel_rfl) (by kernel_rfl) hQ l.o ?_;first
   |have o:=o
    iterate 5
     refine aA (v:= ?_) (λw' i=> ?_) (λK b=> ?_);rotate_left
     ·have y:=aj w' q (s.o w' i);clear i;go_simp;try with_reducible rfl
     go_simp;refine b _ ?_;clear b K
    refine aF (λK b=> ?_)
   |have p:=p
    iterate 12
     refine aA (v:= ?_) (λw' i=> ?_) (λK b=> ?_);rotate_left
     ·have y:=aj w' q (s.o w' i);clear i;go_simp;try with_reducible rfl
     go_simp;refine b _ ?_;clear b K
    refine aF (λK b=> ?_)
   |skip
    iterate 18
     refine aA (v:= ?_) (λw' i=> ?_) (λK b=> ?_);rotate_left
     ·have y:=aj w' q (s.o w' i);clear i;go_simp;try with_reducible rfl
     go_simp;refine b _ ?_;clear b K
    refine az (λK b=> ?_);refine(if_pos (by rfl)).mpr ?_
  go_simp;first
   |have o:=o
    iterate 4
     refine b _ ?_;clear b K;refine aF (λK b=> ?_);go_simp
    refine b _ ?_;clear b K
    iterate 2
     refine aA (v:= ?_) (λw' i=> ?_) (λK b=> ?_);rotate_left
     ·clear i;go_simp;try with_reducible rfl
     go_simp;refine b _ ?_;clear b K
    iterate 6
     refine aF (λK b=> ?_);go_simp;refine b _ ?_;clear b K
    refine dR (by rfl) (by rfl) (λK b=> ?_);go_simp;refine b.out _ _ (λw'=>Below f.heap.size f w') (λ_ h=>h) l.o ?_;clear b K;refine aF (λK b=> ?_);go_simp;refine b _ ?_;clear b K
    iterate 2
     refine aA (v:= ?_) (λw' i=> ?_) (λK b=> ?_);rotate_left
     ·clear i;go_simp;try with_reducible rfl
     go_simp;refine b _ ?_;clear b K
   |have p:=p
    iterate 5
     refine b _ ?_;clear b K;refine aF (λK b=> ?_);go_simp
    refine b _ ?_;clear b K;refine dR (by rfl) (by rfl) (λK b=> ?_);go_simp;refine b.out _ _ (λw'=>Below f.heap.size f w') (λ_ h=>h) l.o ?_;clear b K;refine aF (λK b=> ?_);go_simp;refine b _ ?_;clear b K
    iterate 2
     refine aA (v:= ?_) (λw' i=> ?_) (λK b=> ?_);rotate_left
     ·clear i;go_simp;try with_reducible rfl
     go_simp;refine b _ ?_;clear b K
   |refine(b1.o _ l.o).mono ?_
    rintro e V1 ⟨rfl,x⟩;have u:=ae (l.o.trans (x.mono l.o.size));refine b.out _ _ (λw'=>Below f.heap.size f w') (λ_ h=>h) u.o ?_;clear b K x
    iterate 3
     refine aA (v:= ?_) (λw' i=> ?_) (λK b=> ?_);rotate_left
     ·clear i;go_simp;try with_reducible rfl
     go_simp;refine b _ ?_;clear b K
  show wpList _ _ _ _ _ _;simp only[wpList];first
   |have o:=o
    exact h _ _ _ _ _ _ _ _ _ _ _ _ _ _ _ _ _ _ _ _ _ _ l.o
    skip
   |have p:=p
    exact h _ _ _ _ _ _ _ _ _ _ _ _ _ _ _ _ _ _ _ _ _ _ l.o
    skip
   |exact h _ _ _ _ _ _ _ _ _ _ _ _ _ _ _ _ _ _ _ _ _ _ u.o
section
variable {w w' : World} {q g c ct : Nat} {M : Nat -> Prop} {m : X.M} {v : Value} {l : List HP}
def WrQ (w:World) (q g c:Nat) (M:Nat->Prop) (m:X.M) (b:J.B) (e:Ending) (w':World):Prop:=e= .returned (.string ⟨(m.write b).2.toArray⟩)/\∃v' l',HR w q g c M (m.write b).1 v' l' w'
theorem Ie (h:fH w q g c M m v l) (b:J.B) (a:X.bP [52,56] [2,4,3] m.mode≠X.good):
  Calls Tryz.prog 16 #[.pointer (some ⟨q,0,none⟩), .string ⟨b.toArray⟩] w λe w'=>e= .returned (.string ⟨(m.write b).2.toArray⟩)/\∃v' l',HR w q g c M (m.write b).1 v' l' w':=by
 unfold X.M.write;rw[if_pos a];have d:=ae (iB h.row [52,56] 2 4 3 [2,4,3] (by simp) a);have f:=ae (fz h);obtain⟨i,j⟩:=jP (tB [52,56] [2,4,3] m.mode (by decide));clear h a;generalize(⟨(X.bP [52,56] [2,4,3] m.mode).toArray⟩:ByteArray)=S at d i j|-;go_enter Tryz.func16,Tryz.ntmps16;go_wp2_with fail;refine d.o.mono ?_;rintro e w1 ⟨rfl,rfl⟩;go_wp2;go_ret;exact⟨rfl,_,_,f.o⟩
theorem rP (a:l.map (·.1)=m.rows) {p:J.B} (b:∀x∈l,X.val m.ks 0 x.1.b≠p):m.find p=none:=by
 unfold X.M.find;rw[<-a];exact lZ (p:=λr=>decide (X.val m.ks 0 r.b=p)) (λt c=>decide_eq_false (b _ (List.getElem_mem c)))
theorem Vv (a:l.map (·.1)=m.rows) {p:J.B} {j:Nat} (b:j<l.length) (c:X.val m.ks 0 l[j].1.b=p):(m.find p).isSome=true:=by
 unfold X.M.find;rw[<-a,List.find?_isSome];exact⟨l[j].1,List.mem_map_of_mem (List.getElem_mem b),decide_eq_true c⟩
theorem My (h:fH w q g c M m v l) (hM:∀k,M k->k<w.heap.size) (t:bY m l) (a7:m.time<=100000) (b:J.B) (a6:b.length<=1000000) (hc:X.bP [52,56] [2,4,3] m.mode=X.good):
  Calls Tryz.prog 16 #[.pointer (some ⟨q,0,none⟩), .string ⟨b.toArray⟩] w (WrQ w q g c M m b):=by
 have i:aa (m.write b=if X.bt m.ks m.size b=false then(m.aG,[52,52])
  else if m.ord=true/\m.mode≠3/\¬m.written<X.val m.ks 0 b then(m.aG,[50,49])
  else if(m.find (X.val m.ks 0 b)).isSome\/m.dh b none=[50,50]then(m.aG,[50,50])
  else({m.aG.put b none with written:=X.val m.ks 0 b},m.dh b none)):=ae (by unfold X.M.write;rw[if_neg (Decidable.not_not.2 hc)])
 have HM:=ae (eL h.row [52,56] 2 4 3 [2,4,3] (by simp) (by decide) hc);have b3:=aj w q h.row;have H:=aD h.row;have HH:aa (HR w q g c M m.aG v l (w.setCell ⟨q,14,none⟩ (.bool false))):=ae ((fz h).set 14 (.bool false) (aB h.row 14 _) rfl rfl);have Q:aa (bY m.aG l):=ae ⟨t.fit,t.ts,t.ks,t.len⟩;have b0:=ae hM;have b2:=ae a7;have O:=ae a6;have P:=ae h.eq;have s:=ae t.ks;generalize hS:(⟨b.toArray⟩:ByteArray)=S;have F:=ae hS;clear h hM t a7 a6 hc hS;go_enter Tryz.func16,Tryz.ntmps16;go_wp2_with fail;refine HM.o.mono ?_;rintro e w1 ⟨rfl,rfl⟩;clear HM;go_upto_region 5 with fail;refine aL (λY=>HR w q g c M m.aG v l Y) HH.o ?_;rintro W1 h1;have I:=ae h1;have o:=ae (zv h1.2 s.o b O.o);rw[F.o]at o;rw[show X.bt m.aG.ks m.aG.size b=X.bt m.ks m.size b from rfl]at o;clear h1 HH b3 H;cases DD:X.bt m.ks m.size b with
 |false=>
  rw[DD]at o;have n:=ae (i.o.trans (if_pos DD));clear DD;go_wp2_with fail;refine o.o.mono ?_;rintro e W2 ⟨rfl,f⟩;have p:=ae (I.o.below f);clear f o;go_wp2;go_ret;unfold WrQ;rw[n.o];exact⟨rfl,_,_,p.o⟩
 |true=>
  rw[DD]at o;replace i:=ae (i.o.trans (if_neg (by rw[DD];decide)));have N:=ae DD;clear DD;go_wp2_with fail;refine o.o.mono ?_;rintro e W2 ⟨rfl,f⟩;have p:=ae (I.o.below f);have A:=ae (λ(W:World) (f:Below W2.heap.size W2 W)=>hpart_any (p.o.below f).2.row (p.o.below f).2.ks 0 s.o.one.1 b ((X.aS.1 N.o).2 _ (X.aY s.o.one.1)) O.o);have V:=ae (λ(W:World) (f:Below W2.heap.size W2 W)=>(p.o.below f).2.row);rw[F.o]at A;clear f o I;go_upto_region 7 with fail;refine aiG (m:=m.aG) (λc a d v w h=>by cases d<;>exact h) (ae V.o) (ae A.o) _ rfl _ _ _ _ _ _ _ _ _ _ _ _ _ _ _ _ _ _ _ _ _ _ _ _ _ _ _ _ _ _ _ _ _ _ _ _ _ _ _ _ _ _ _ _ _ _ _ _ _ _ _ _ _ _ _ _ _ _ ?_;intro b6 b7 b8 b9 c0 c1 c2 c3 c4 c5 c6 c7 c8 c9 d0 d1 d2 d3 d4 d5 d6 W3 a5;have K:=ae a5;have C:aa (((m.aG).ord&&((((m.aG).mode:Int) !=3)&&(Op.bytesLess (⟨(X.val m.aG.ks 0 b).toArray⟩:ByteArray).toList (⟨(m.aG).written.toArray⟩:ByteArray).toList||((⟨(X.val m.aG.ks 0 b).toArray⟩:ByteArray).toList==(⟨(m.aG).written.toArray⟩:ByteArray).toList))))=decide (m.ord=true/\m.mode≠3/\¬m.written<X.val m.ks 0 b)):=ae (by
   rw[dt,tA];show(m.ord&&(((m.mode:Int) !=3)&&(decide (X.val m.ks 0 b<m.written)||decide (X.val m.ks 0 b=m.written))))=_;have e1:((m.mode:Int) !=3)=decide (m.mode≠3):=by
    by_cases h3:m.mode=3
    ·rw[h3];rfl
    ·rw[decide_eq_true h3];simp;omega
   have e2:(decide (X.val m.ks 0 b<m.written)||decide (X.val m.ks 0 b=m.written))=decide (¬m.written<X.val m.ks 0 b):=by
    rw[Bool.eq_iff_iff,Bool.or_eq_true,decide_eq_true_eq,decide_eq_true_eq,decide_eq_true_eq];constructor
    ·rintro(h1|h1)
     ·exact List.lt_asymm h1
     ·rw[h1];exact List.lt_irrefl _
    ·intro h1;rcases List.le_iff_lt_or_eq.1 (List.not_lt.1 h1)with Z|Z
     ·exact .inl Z
     ·exact .inr Z
   rw[e1,e2];cases m.ord<;>simp)
  clear a5;by_cases u:m.ord=true/\m.mode≠3/\¬m.written<X.val m.ks 0 b
  ·have n:=ae (i.o.trans (if_pos u));have HX:aa _:=ae (C.o.trans (decide_eq_true u));have H3:=ae (p.o.below K.o);rw[HX.o];clear u C HX A V;go_wp2;go_ret;unfold WrQ;rw[n.o];exact⟨rfl,_,_,H3.o⟩
  ·replace i:=ae (i.o.trans (if_neg u));have HX:aa _:=ae (C.o.trans (decide_eq_false u));rw[HX.o];have H3:=ae (p.o.below K.o);have D:=ae (A.o _ K.o);have T:=ae (λ(W:World) (f:Below W3.heap.size W3 W)=>nW (H3.o.below f).2 s.o Q.o.fit Q.o.len (X.val m.ks 0 b));rw[show m.aG.ks=m.ks from rfl]at D;generalize a4:(⟨(X.val m.ks 0 b).toArray⟩:ByteArray)=VK at D T;have a1:=ae a4;clear u C HX A V a4;go_wp2_with fail;refine D.o.mono ?_;rintro e W4 ⟨rfl,f⟩;have L:=ae f;clear f D;go_wp2_with fail;refine(T.o _ L.o).mono ?_;rintro e W5 ⟨⟨z,rfl,H⟩,f⟩;have x:=ae ((H3.o.below L.o).below f);have a2:=ae H;clear f T L;rcases H with⟨j,hj,rfl,hp⟩|⟨rfl,G⟩
   ·have n:=ae (i.o.trans (if_pos (.inl (Vv P.o hj hp))));have d9:(0:Int)<=(j:Nat):=(by omega);clear hp hj a2;go_wp2;go_ret;unfold WrQ;rw[n.o];exact⟨rfl,_,_,x.o⟩
   ·have b5:=ae G;have E:=ae (xn x.o.2 (λk hk=>av (b0.o k hk) x.o.1.size) Q.o b N.o b2.o l.length (-1) (.inr ⟨rfl,rfl⟩) none (by rw[List.getElem?_eq_none (Nat.le_refl _)];rfl));have a9:=ae (rP P.o G);have b1:aa (Vg m.aG b l l.length none=m.aG.put b none):=ae (QL P.o G);rw[F.o]at E;clear G a2;go_wp2_with fail;refine E.o.mono ?_;rintro e W6 ⟨rfl,hw⟩;rw[show m.aG.dh b none=m.dh b none from rfl]at hw|-;rcases hw with⟨r,f⟩|⟨r,v',tv,hr⟩
    ·have n:=ae (i.o.trans (if_pos (.inr r)));have y:=ae (x.o.below f);rw[r];clear f r E;go_wp2;go_ret;unfold WrQ;rw[n.o];exact⟨rfl,_,_,y.o⟩
    ·have n:=ae (i.o.trans (if_neg (λhh=>hh.elim (λh1=>by rw[a9.o]at h1;cases h1) (λh1=>r h1))));have y:=ae (x.o.trans hr);have a0:(⟨(m.dh b none).toArray⟩:ByteArray).toList≠[50,50]:=(by rw[ByteArray.toList_eq];exact r);have b4:((⟨(m.dh b none).toArray⟩:ByteArray).toList==[50,50])=false:=(by simpa using a0);have U:=ae (λ(W:World) (f:Below W6.heap.size W6 W)=>hpart_any (y.o.below f).2.row (y.o.below f).2.ks 0 s.o.one.1 b ((X.aS.1 N.o).2 _ (X.aY s.o.one.1)) O.o);rw[F.o,show(Vg m.aG b l l.length none).ks=m.ks from rfl,a1.o]at U;generalize a3:(⟨(m.dh b none).toArray⟩:ByteArray)=CL at a0 b4|-;have a8:=ae a3;clear r hr E a3;go_wp2_with fail;refine(U.o _ (ak _ _)).mono ?_;rintro e W7 ⟨rfl,f⟩;have B:=ae (y.o.below f);have d8:=aD B.o.2.row;have d7:=aj W7 q B.o.2.row;have H8:aa (HR w q g c M {m.aG.put b none with written:=X.val m.ks 0 b} v' (l.eraseIdx l.length++[(⟨b,m.aG.times b none⟩,tv)]) (W7.setCell ⟨q,15,none⟩ (.string VK))):=by
      have:=B.o.set (m':={Vg m.aG b l l.length none with written:=X.val m.ks 0 b}) 15 (.string VK) (by rw[<-a1.o];exact aB B.o.2.row 15 _) rfl rfl;rw[b1.o]at this;exact ae this
     clear f U a0;go_wp2;go_ret;unfold WrQ;rw[n.o];exact⟨by first|rfl|(rw[a8.o];rfl),_,_,H8.o⟩
theorem Ig (h:fH w q g c M m v l) (d:∀k,M k->k<w.heap.size) (i:bY m l) (j:m.time<=100000) (b:J.B) (f:b.length<=1000000):
  Calls Tryz.prog 16 #[.pointer (some ⟨q,0,none⟩), .string ⟨b.toArray⟩] w λe w'=>e= .returned (.string ⟨(m.write b).2.toArray⟩)/\∃v' l',HR w q g c M (m.write b).1 v' l' w':=by
 by_cases a:X.bP [52,56] [2,4,3] m.mode=X.good
 ·exact My h d i j b f a
 ·exact Ie h b a
end
section
variable {w w' : World} {q g c ct : Nat} {M : Nat -> Prop} {m : X.M} {v : Value} {l : List HP}
abbrev gtE (m:X.M) (k:Int) (b:J.B):Ending:= .returned (.tuple #[.string ⟨((m.get k b).2.1.getD []).toArray⟩, .string ⟨(m.get k b).2.2.toArray⟩])
def GtQ (w:World) (q g c:Nat) (M:Nat->Prop) (m:X.M) (v:Value) (l:List HP) (k:Nat) (b:J.B) (e:Ending) (w':World):Prop:=e= .returned (.tuple #[.string ⟨((m.get k b).2.1.getD []).toArray⟩, .string ⟨(m.get k b).2.2.toArray⟩])/\HR w q g c M (m.get k b).1 v l w'
theorem get_some {k:Nat} {b:J.B} (c:X.bP [52,55] [1,3] m.mode=X.good) (d:k<m.ks.length) (a:¬b.length<(X.aH m.ks k).at_+(X.aH m.ks k).len) {r:X.Row} (h:m.lF k (X.val m.ks k b)=some r):m.get (k:Nat) b=(((lz m).keyed k).take r,some r.b,((lz m).keyed k).qO r):=by
 unfold X.M.get;rw[if_neg (Decidable.not_not.2 c),if_neg (by omega),if_neg (by rw[Int.toNat_natCast];exact a),Int.toNat_natCast,h];rfl
theorem get_none {k:Nat} {b:J.B} (c:X.bP [52,55] [1,3] m.mode=X.good) (d:k<m.ks.length) (a:¬b.length<(X.aH m.ks k).at_+(X.aH m.ks k).len) (h:m.lF k (X.val m.ks k b)=none):m.get (k:Nat) b=(m.dW,none,[50,51]):=by
 unfold X.M.get;rw[if_neg (Decidable.not_not.2 c),if_neg (by omega),if_neg (by rw[Int.toNat_natCast];exact a),Int.toNat_natCast,h]
theorem Ra (h:fH w q g c M m v l) (k:Int) (b:J.B) (a:X.bP [52,55] [1,3] m.mode≠X.good):
  Calls Tryz.prog 69 #[.pointer (some ⟨q,0,none⟩), .int .i64 k, .string ⟨b.toArray⟩] w λe w'=>e=gtE m k b/\HR w q g c M (m.get k b).1 v l w':=by
 unfold gtE X.M.get;rw[if_pos a];have d:=ae (iB h.row [52,55] 1 3 3 [1,3] (by simp) a);have f:=ae (fz h);obtain⟨i,j⟩:=jP (tB [52,55] [1,3] m.mode (by decide));clear h a;show Calls _ _ _ _ λe w'=>e= .returned (.tuple #[.string ⟨#[]⟩, .string ⟨(X.bP [52,55] [1,3] m.mode).toArray⟩])/\HR w q g c M m v l w';generalize(⟨(X.bP [52,55] [1,3] m.mode).toArray⟩:ByteArray)=S at d i j|-;go_enter Tryz.func69,Tryz.ntmps69;go_wp2_with fail;refine d.o.mono ?_;rintro e w1 ⟨rfl,rfl⟩;go_wp2;go_ret2;exact⟨rfl,f.o⟩
theorem Rb (h:fH w q g c M m v l) (k:Int) (b:J.B) (d:X.bP [52,55] [1,3] m.mode=X.good) (o:k<0\/m.ks.length<=k):
  Calls Tryz.prog 69 #[.pointer (some ⟨q,0,none⟩), .int .i64 k, .string ⟨b.toArray⟩] w λe w'=>e=gtE m k b/\HR w q g c M (m.get k b).1 v l w':=by
 unfold gtE X.M.get;rw[if_neg (Decidable.not_not.2 d),if_pos o];have n:=ae (eL h.row [52,55] 1 3 3 [1,3] (by simp) (by decide) d);have i:=ae (iA h.row);have s:=ae h;show Calls _ _ _ _ λe w'=>e= .returned (.tuple #[.string ⟨#[]⟩, .string ⟨#[50,51]⟩])/\HR w q g c M m.dW v l w';have t:k<0\/¬k<0/\¬k<(m.ks.length:Nat):=by omega
 clear h d o;go_enter Tryz.func69,Tryz.ntmps69;go_wp2_with fail;refine n.o.mono ?_;rintro e w1 ⟨rfl,rfl⟩;clear n;go_wp2_with fail;refine(i.o).mono ?_;rintro e r ⟨⟨x,rfl⟩,f,p⟩;have a:aa (HR w q g c M (lz m) v l r):=ae ⟨f,s.o.turn f p rfl rfl⟩;clear f p i;have u:=aj r q a.o.2.row;rcases t with h0|⟨h0,h1⟩
 ·go_wp2;go_ret2;exact⟨rfl,a.o⟩
 ·go_wp2;go_ret2;exact⟨rfl,a.o⟩
theorem Ih (h:fH w q g c M m v l) (s:X.eC m.ks m.size) (k:Nat) (b:J.B) (p:X.bP [52,55] [1,3] m.mode=X.good) (r:k<m.ks.length) (C:b.length<(X.aH m.ks k).at_+(X.aH m.ks k).len):
  Calls Tryz.prog 69 #[.pointer (some ⟨q,0,none⟩), .int .i64 (k:Nat), .string ⟨b.toArray⟩] w λe w'=>e=gtE m k b/\HR w q g c M (m.get k b).1 v l w':=by
 unfold gtE X.M.get;rw[if_neg (Decidable.not_not.2 p),if_neg (by omega),if_pos (by rw[Int.toNat_natCast];exact C)];have x:=ae (eL h.row [52,55] 1 3 3 [1,3] (by simp) (by decide) p);have u:=ae (iA h.row);have A:=ae h;show Calls _ _ _ _ λe w'=>e= .returned (.tuple #[.string ⟨#[]⟩, .string ⟨#[52,52]⟩])/\HR w q g c M m.dW v l w';have h0:¬(k:Int)<0:=by omega
 have h1:(k:Int)<(m.ks.length:Nat):=by omega
 have o:=ae r;have E:=s.key _ (X.aY r);have t:=s.size;have K:(b.length:Int)<(((X.aH m.ks k).at_+(X.aH m.ks k).len:Nat):Int):=by omega
 have F:(⟨b.toArray⟩:ByteArray).size=b.length:=bm b;have N:=aak (X.aH m.ks k).at_ (X.aH m.ks k).len (by omega);have O:=Qr (X.aH m.ks k).at_ (X.aH m.ks k).len (by omega);generalize(⟨b.toArray⟩:ByteArray)=S at F|-;clear h p r E t s;go_enter Tryz.func69,Tryz.ntmps69;go_wp2_with fail;refine x.o.mono ?_;rintro e w1 ⟨rfl,rfl⟩;clear x;go_wp2_with fail;refine(u.o).mono ?_;rintro e a ⟨⟨P,rfl⟩,d,f⟩;have n:aa (HR w q g c M (lz m) v l a):=ae ⟨d,A.o.turn d f rfl rfl⟩;clear d f u;have D:=aj a q n.o.2.row;have i:dJ a g m.ks:=n.o.2.ks;have G:=i.at_ o.o;have H:=i.len o.o;have I:=i.dup o.o;have y:=ae (heap_alloc_new a dU);go_wp2_with (refine wpList_store_row rfl _ _ 66 rfl a.heap.size rfl _ rfl _ _ y.o rfl (by kernel_rfl) rfl ?_);intro B f d t;have z:=((ak a.heap.size a).alloc (aq _) dU).grown d (by simp) (λk e=>by injection e with e;omega);have H3:=ae (n.o.below z);have L:=aj B a.heap.size f;clear f d t y G H I D z i;go_wp2;go_ret2;exact⟨rfl,H3.o⟩
theorem Vw (h:fH w q g c M m v l) (hM:∀k,M k->k<w.heap.size) (y:bY m l) (hr:X.aQ m.ks m.size ct m.rows) (k:Nat) (b:J.B) (b5:b.length<=1000000) (Q:X.bP [52,55] [1,3] m.mode=X.good) (E:k<m.ks.length) (a:¬b.length<(X.aH m.ks k).at_+(X.aH m.ks k).len):
  Calls Tryz.prog 69 #[.pointer (some ⟨q,0,none⟩), .int .i64 (k:Nat), .string ⟨b.toArray⟩] w (GtQ w q g c M m v l k b):=by
 have c2:=ae (λr=>get_some (r:=r) Q E a);have c1:=ae (get_none Q E a);have HM:=ae (eL h.row [52,55] 1 3 3 [1,3] (by simp) (by decide) Q);have HL:=ae (iA h.row);have HH:=ae h;have h0:¬(k:Int)<0:=by omega
 have h1:(k:Int)<(m.ks.length:Nat):=by omega
 have o:=ae E;have d1:=y.ks.key _ (X.aY E);have a7:=y.ks.size;have d7:¬(b.length:Int)<(((X.aH m.ks k).at_+(X.aH m.ks k).len:Nat):Int):=by omega
 have d3:(⟨b.toArray⟩:ByteArray).size=b.length:=bm b;have hw:=aak (X.aH m.ks k).at_ (X.aH m.ks k).len (by omega);have e3:=Qr (X.aH m.ks k).at_ (X.aH m.ks k).len (by omega);have a2:=ae (λ(W:World) (F:fH W q g c M (lz m) v l)=>hpart_any F.row F.ks k E b (by show(X.aH m.ks k).at_+(X.aH m.ks k).len<=_;omega) b5);have HF:aa (bY (lz m) l):=ae ⟨y.fit,y.ts,y.ks,y.len⟩;have c4:=ae hM;have Y:aa (m.lF k (X.val m.ks k b)=((dm m.ks k l).map (·.1)).find? λr=>decide (X.val m.ks k r.b=X.val m.ks k b)):=ae (by unfold X.M.lF;rw[h.cn k]);have c5:=ae hr;have e4:=ae (λx:HP=>dt (X.val m.ks k x.1.b) (X.val m.ks k b));generalize(⟨b.toArray⟩:ByteArray)=S at d3 a2|-;clear h Q E d1 a7 y hr hM b5;go_enter Tryz.func69,Tryz.ntmps69;go_wp2_with fail;refine HM.o.mono ?_;rintro e w1 ⟨rfl,rfl⟩;clear HM;go_wp2_with fail;refine(HL.o).mono ?_;rintro e f ⟨⟨vx,rfl⟩,d,K⟩;have U:aa (HR w q g c M (lz m) v l f):=ae ⟨d,HH.o.turn d K rfl rfl⟩;clear d K HL;have a6:=aj f q U.o.2.row;have T:dJ f g m.ks:=U.o.2.ks;have k1:=T.at_ o.o;have k2:=T.len o.o;have k3:=T.dup o.o;have HZ:=ae (heap_alloc_new f dU);go_wp2_with (refine wpList_store_row rfl _ _ 66 rfl f.heap.size rfl _ rfl _ _ HZ.o rfl (by kernel_rfl) rfl ?_);intro W3 K d a7;have b4:=((ak f.heap.size f).alloc (aq _) dU).grown d (by simp) (λk e=>by injection e with e;omega);have H3:=ae (U.o.below b4);have d0:=aj W3 f.heap.size K;have b0:=ae (jN H3.o.2 (λj hj=>av (c4.o j hj) H3.o.1.size) HF.o k o.o);clear K d a7 HZ k1 k2 k3 a6 b4 T;go_wp2_with fail;refine b0.o.mono ?_;rintro e w4 ⟨vs,rfl,a5,b9⟩;have d6:=ae a5;have b3:=ae b9;have H4:=ae (H3.o.below a5);have G:=ae (HF.o.cn k);have b2:aa (∀(W:World),fH W q g c M ((lz m).keyed k) v l->∀i (hi:i<(dm m.ks k l).length),tkS ((lz m).keyed k) (dm m.ks k l) i (dm m.ks k l)[i].1.b=((lz m).keyed k).qO (dm m.ks k l)[i].1):=ae (λW F i hi=>QH (m:=(lz m).keyed k) F (show X.aQ m.ks m.size ct m.rows from c5.o) (show k<m.ks.length from o.o) hi);have b7:(dm m.ks k l).length<=1000000:=by rw[kP];exact HF.o.len
 have a0:aa (bY ((lz m).keyed k) (dm m.ks k l)):=ae ⟨G.o.fit,G.o.ts,G.o.ks,G.o.len⟩;have P:aa (lU w4 M vs (dm m.ks k l)):=b3;clear b3 G;generalize dm m.ks k l=ls at a0 Y b2 P b7;clear a5 b9 d0 b0 a;obtain⟨A,cs,rfl,d2,c9,_,_⟩:=P.o.aU;clear c9 d2;go_wp2_with fail;go_loopw [11] (fun u W=>∃i:Nat,i<=ls.length/\u= .int .i64 i/\aa (∀t (L:t<ls.length),t<i->decide (X.val m.ks k ls[t].1.b=X.val m.ks k b)=false)/\aa (Below w4.heap.size w4 W)) (fun u _=>ls.length - (intOf u).toNat)
 case atStart=>exact⟨0,Nat.zero_le _,rfl,ae (λt _ h=>absurd h (Nat.not_lt_zero t)),ae (ak _ _)⟩
 case round=>
  obtain⟨i,hi,rfl,a1,n⟩:=hrel;by_cases I:i<ls.length
  ·obtain⟨g0,c0,e0,d4,d5⟩:=P.o.cells I;clear d4 d5;injection e0 with e0 e1 e2;subst e0 e2;have d8:(i:Int)<(ls.length:Nat):=(by omega);have C:=ae (λ(W:World) (a:Below wr.heap.size wr W)=>H4.o.below (n.o.trans (a.mono n.o.size)));have a3:=ae (λ(W:World) (a:Below wr.heap.size wr W)=>P.o.below (n.o.trans (a.mono n.o.size)));have b6:wr.cell? ⟨g0,i*2,none⟩=some (.string ⟨ls[i].1.b.toArray⟩):=((a3.o wr (ak _ _)).cellAt I).1;have O:aa (Calls Tryz.prog 52 #[.pointer (some ⟨q,0,none⟩), .int .i64 (k:Nat), .string ⟨ls[i].1.b.toArray⟩] wr λe w'=>e= .returned (.string ⟨(X.val m.ks k ls[i].1.b).toArray⟩)/\Below wr.heap.size wr w'):=ae (jH.part (m:=(lz m).keyed k) ⟨World.grownBy.refl wr (some q),(C.o wr (ak _ _)).2,a3.o wr (ak _ _)⟩ rfl a0.o o.o (List.getElem_mem I));have B:=ae (e4.o ls[i]);have H:=ae I;have a8:=ae (show i<=1000000 by omega);have b1:=ae (λ(W:World) (F:fH W q g c M ((lz m).keyed k) v l) (hw:lU W M (.slice (some ⟨g0,0,none⟩) ls.length cs) ls)=>zx F hw a0.o i I o.o);generalize c7:(⟨(X.val m.ks k ls[i].1.b).toArray⟩:ByteArray)=VK at O B;generalize c8:(⟨(X.val m.ks k b).toArray⟩:ByteArray)=VV at B a2;generalize(⟨ls[i].1.b.toArray⟩:ByteArray)=SI at b6 O;clear c7 c8 b7;go_wp2_with fail;refine O.o.mono ?_;rintro e w5 ⟨rfl,a⟩;have Z:=ae a;have a9:=ae (a2.o _ (C.o w5 a).2);clear a O b6;go_wp2_with fail;refine a9.o.mono ?_;rintro e N ⟨rfl,a⟩;have z:=ae (Z.o.trans (a.mono Z.o.size));clear a Z a9;by_cases D:X.val m.ks k ls[i].1.b=X.val m.ks k b
   ·have hq:(VK.toList==VV.toList)=true:=(by rw[B.o];exact decide_eq_true D);have HE:=ae D;clear D B;have hz:=aD (C.o _ z.o).2.row;have a6:=aj N q (C.o _ z.o).2.row;have V:aa (HR w q g c M ((lz m).keyed k) v l (N.setCell ⟨q,8,none⟩ (.int .i64 (k:Nat)))):=ae ((C.o _ z.o).set (m':=(lz m).keyed k) 8 (.int .i64 (k:Nat)) (aB (C.o _ z.o).2.row 8 _) rfl rfl);have c6:aa (lU (N.setCell ⟨q,8,none⟩ (.int .i64 (k:Nat))) M (.slice (some ⟨g0,0,none⟩) ls.length cs) ls):=ae ((a3.o _ z.o).keep (ay (World.grownBy.refl N (some q)) 8 (.int .i64 (k:Nat))).size (λj hj hn=>(ay (World.grownBy.refl N (some q)) 8 (.int .i64 (k:Nat))).block j hj (λe=>hn (by injection e with e;rw[e];exact HH.o.nq))) (λ_ _ h=>h));go_wp2_with fail;refine(b1.o _ V.o.2 c6.o).mono ?_;rintro e w8 ⟨rfl,d,b8⟩;have HG:=ae d;have c3:=ae b8;clear d b8 hz a6;go_wp2;go_ret2;have a4:m.lF k (X.val m.ks k b)=some ls[i].1:=(by rw[Y.o];exact jJ (p:=λr=>decide (X.val m.ks k r.b=X.val m.ks k b)) H.o a1.o (decide_eq_true HE.o));unfold GtQ;rw[c2.o _ a4];refine⟨?_,V.o.trans ⟨HG.o,c3.o⟩⟩;show _=Ending.returned (.tuple #[.string ⟨(ls[i].1.b).toArray⟩, .string ⟨(((lz m).keyed k).qO ls[i].1).toArray⟩]);exact congrArg (λs:J.B=>Ending.returned (Value.tuple #[.string ⟨(ls[i].1.b).toArray⟩, .string ⟨s.toArray⟩])) (b2.o _ V.o.2 i H.o)
   ·have hq:(VK.toList==VV.toList)=false:=(by rw[B.o];exact decide_eq_false D);have HE:=ae D;clear D B b1;go_wp2;go_roundw
    case rel=>exact⟨i+1,H.o,by first|exact gB i a8.o|rfl,ae (λt L d9=>by
     by_cases e:t=i
     ·subst e;exact decide_eq_false HE.o
     ·exact a1.o t L (by omega)),ae (n.o.trans (z.o.mono n.o.size))⟩
    case measure=>first|exact fy H.o a8.o|exact eH H.o
  ·obtain rfl:i=ls.length:=(by omega);go_wp2;go_ret2;have a4:m.lF k (X.val m.ks k b)=none:=(by rw[Y.o];exact lZ (p:=λr=>decide (X.val m.ks k r.b=X.val m.ks k b)) (λt L=>a1.o t L L));unfold GtQ;rw[c1.o a4];exact⟨rfl,H4.o.below n.o⟩
theorem Rc (h:fH w q g c M m v l) (i:∀k,M k->k<w.heap.size) (f:bY m l) (p:X.aQ m.ks m.size ct m.rows) (k:Int) (b:J.B) (j:b.length<=1000000):
  Calls Tryz.prog 69 #[.pointer (some ⟨q,0,none⟩), .int .i64 k, .string ⟨b.toArray⟩] w λe w'=>e=gtE m k b/\HR w q g c M (m.get k b).1 v l w':=by
 by_cases a:X.bP [52,55] [1,3] m.mode=X.good
 ·by_cases o:k<0\/m.ks.length<=k
  ·exact Rb h k b a o
  ·obtain⟨n,rfl⟩:∃n:Nat,k=n:=⟨k.toNat,by omega⟩;by_cases d:b.length<(X.aH m.ks n).at_+(X.aH m.ks n).len
   ·exact Ih h f.ks n b a (by omega) d
   ·exact Vw h i f p n b j a (by omega) d
 ·exact Ra h k b a
end
noncomputable def vz:Code:=(Tryz.f70.body.bind (jG 12)).getD .skip
theorem aeE {b:World} {q g c:Nat} {m:X.M} {v:Value} {S VK LA:ByteArray} {o:Bool} {Q:Exit->Act->World->Prop} (hQ:∀c a d v w,Q (.panic c) (Act.put a d v) w->Q (.panic c) a w) (h0:aa (∀w',Below b.heap.size b w'->w'.heap[q]? =some (.cells #[.string ⟨#[102]⟩, .int .i64 (m.size:Nat), .slice (some ⟨g,0,none⟩) m.ks.length c, .bool m.there,v, .int .i64 (m.time:Nat), .int .u8 (m.mode:Nat), .bool o, .int .i64 (m.key:Nat), .bool m.lost, .string ⟨m.value.toArray⟩, .int .i64 (m.at_:Nat), .bool m.same, .string LA, .bool m.read, .string ⟨m.written.toArray⟩] 34 (0,0)))) (ho:o=false) (u3 u4 u5 u6 u7 u8 u9 k A N a2 a3 a4 a5 a6 a7 a8 a9 b0 b1 b2 b3 b4 b5 b6 b7 b8 b9 c0 c1 c2 c3 c4 c5 c6 c7 c8 c9 d0 d1 d2 d3 d4 d5 d6 d7 d8 d9 e0 e1 e2 e3 e4 e5 e6 e7 e8 e9 f0 f1 f2 f3 f4 f5 f6 f7 f8 f9 g0 g1 i9 j0 j1 j2 j3 j4 j5 j6 j7 j8 j9 k0 k1 k2 k3 k4 k5 k6 k7 g2 g3 g4 g5 g6 g7 g8 g9 l n p r s t u x y z B C D E F G H I L M O P T U V W Y Z a0 a1:Value) (h:∀(h1 h2 h3 h4 h5 h6 h7 h8 h9 i0 i1 i2 i3 i4 i5 i6 i7 i8:Value) (W':World),Below b.heap.size b W'->Q .normal (⟨#[.pointer (some ⟨q,0,none⟩), .string S, .bool false,u3,u4,u5,u6,u7,u8,u9,k,A,N,a2,a3,a4,a5,a6,a7,a8,a9,b0,b1,b2,b3,b4,b5,b6,b7,b8,b9,c0,c1,c2,c3,c4,c5,c6,c7,c8,c9,d0,d1,d2,d3,d4,d5,d6,d7,d8,d9,e0,e1,e2,e3,e4,e5,e6,e7,e8,e9,f0,f1,f2,f3,f4,f5,f6,f7,f8,f9,g0,g1, .bool false,h1,h2,h3,h4,h5,h6,h7,h8,h9,i0,i1,i2,i3,i4,i5,i6,i7,i8,g2,g3,g4,g5,g6,g7,g8,g9,l,n,p,r,s,t,u,x,y,z,B,C,D,E,F,G,H,I,L,M,O,P,T,U,V,W,Y,Z,a0,a1],[]⟩:Act) W'):Code.wp Tryz.prog vz Q (⟨#[.pointer (some ⟨q,0,none⟩), .string S, .bool false,u3,u4,u5,u6,u7,u8,u9,k,A,N,a2,a3,a4,a5,a6,a7,a8,a9,b0,b1,b2,b3,b4,b5,b6,b7,b8,b9,c0,c1,c2,c3,c4,c5,c6,c7,c8,c9,d0,d1,d2,d3,d4,d5,d6,d7,d8,d9,e0,e1,e2,e3,e4,e5,e6,e7,e8,e9,f0,f1,f2,f3,f4,f5,f6,f7,f8,f9,g0,g1,i9,j0,j1,j2,j3,j4,j5,j6,j7,j8,j9,k0,k1,k2,k3,k4,k5,k6,k7,g2,g3,g4,g5,g6,g7,g8,g9,l,n,p,r,s,t,u,x,y,z,B,C,D,E,F,G,H,I,L,M,O,P,T,U,V,W,Y,Z,a0,a1],[]⟩:Act) b:=by
 subst ho;have HX:=ae h;have f:aa (Below b.heap.size b b.drew):=ae ((ak _ b).drew);clear h
 conv=>arg 2;whnf
 refine wp_region_pm 16 (.rd 0 (.rd 1 (.rd 2 (.rd 3 (.rd 4 (.rd 5 (.rd 6 (.rd 7 (.rd 8 (.rd 9 (.rd 10 (.rd 12 (.rd 13 (.rd 14 (.rd 15 (.wr 11 .fin)))))))))))))))) (λw'=>Below b.heap.size b w') (by kernel_rfl) (by kernel_rfl) hQ f.o ?_;repeat
  first
  |refine aA (v:= ?_) (λw' i=> ?_) (λK e=> ?_)
   rotate_left
   ·have hc:=aj w' q (h0.o w' i);clear i;go_simp;try with_reducible rfl
   go_simp;refine e _ ?_;clear e K
  |refine aF (λK e=> ?_)
   go_simp;refine e _ ?_;clear e K
 refine dR (by rfl) (by rfl) (λK e=> ?_);go_simp;refine e.out _ _ (λw'=>Below b.heap.size b w') (λ_ h=>h) f.o ?_;clear e K;show wpList _ _ _ _ _ _;go_wp2;exact HX.o _ _ _ _ _ _ _ _ _ _ _ _ _ _ _ _ _ _ _ f.o
theorem YE {b:World} {q g c:Nat} {m:X.M} {v:Value} {S VK l:ByteArray} {o:Bool} {Q:Exit->Act->World->Prop} (hQ:∀c a d v w,Q (.panic c) (Act.put a d v) w->Q (.panic c) a w) (h7:aa (∀w',Below b.heap.size b w'->w'.heap[q]? =some (.cells #[.string ⟨#[102]⟩, .int .i64 (m.size:Nat), .slice (some ⟨g,0,none⟩) m.ks.length c, .bool m.there,v, .int .i64 (m.time:Nat), .int .u8 (m.mode:Nat), .bool o, .int .i64 (m.key:Nat), .bool m.lost, .string ⟨m.value.toArray⟩, .int .i64 (m.at_:Nat), .bool m.same, .string l, .bool m.read, .string ⟨m.written.toArray⟩] 34 (0,0)))) (ho:o=true) (h6:aa (∀W,Below b.heap.size b W->Calls Tryz.prog 52 #[.pointer (some ⟨q,0,none⟩), .int .i64 0, .string S] W λe w'=>e= .returned (.string VK)/\Below W.heap.size W w')) (r:Bool) (hr:(VK.toList==l.toList)= !r) (u3 u4 u5 u6 u7 u8 u9 s F V a8 a9 b0 b1 b2 b3 b4 b5 b6 b7 b8 b9 c0 c1 c2 c3 c4 c5 c6 c7 c8 c9 d0 d1 d2 d3 d4 d5 d6 d7 d8 d9 e0 e1 e2 e3 e4 e5 e6 e7 e8 e9 f0 f1 f2 f3 f4 f5 f6 f7 f8 f9 g0 g1 g2 g3 g4 g5 g6 g7 j6 j7 j8 j9 k0 k1 k2 k3 k4 k5 k6 k7 k8 k9 l0 l1 l2 l3 l4 g8 g9 h0 h1 h2 h3 h4 h5 t u x y z A B C D E G H I L M N O P T U Y Z a0 a1 a2 a3 a4 a5 a6 a7:Value) (h:∀(h8 h9 i0 i1 i2 i3 i4 i5 i6 i7 i8 i9 j0 j1 j2 j3 j4 j5:Value) (W':World),Below b.heap.size b W'->Q .normal (⟨#[.pointer (some ⟨q,0,none⟩), .string S, .bool false,u3,u4,u5,u6,u7,u8,u9,s,F,V,a8,a9,b0,b1,b2,b3,b4,b5,b6,b7,b8,b9,c0,c1,c2,c3,c4,c5,c6,c7,c8,c9,d0,d1,d2,d3,d4,d5,d6,d7,d8,d9,e0,e1,e2,e3,e4,e5,e6,e7,e8,e9,f0,f1,f2,f3,f4,f5,f6,f7,f8,f9,g0,g1,g2,g3,g4,g5,g6,g7, .bool r,h8,h9,i0,i1,i2,i3,i4,i5,i6,i7,i8,i9,j0,j1,j2,j3,j4,j5,g8,g9,h0,h1,h2,h3,h4,h5,t,u,x,y,z,A,B,C,D,E,G,H,I,L,M,N,O,P,T,U,Y,Z,a0,a1,a2,a3,a4,a5,a6,a7],[]⟩:Act) W'):Code.wp Tryz.prog vz Q (⟨#[.pointer (some ⟨q,0,none⟩), .string S, .bool false,u3,u4,u5,u6,u7,u8,u9,s,F,V,a8,a9,b0,b1,b2,b3,b4,b5,b6,b7,b8,b9,c0,c1,c2,c3,c4,c5,c6,c7,c8,c9,d0,d1,d2,d3,d4,d5,d6,d7,d8,d9,e0,e1,e2,e3,e4,e5,e6,e7,e8,e9,f0,f1,f2,f3,f4,f5,f6,f7,f8,f9,g0,g1,g2,g3,g4,g5,g6,g7,j6,j7,j8,j9,k0,k1,k2,k3,k4,k5,k6,k7,k8,k9,l0,l1,l2,l3,l4,g8,g9,h0,h1,h2,h3,h4,h5,t,u,x,y,z,A,B,C,D,E,G,H,I,L,M,N,O,P,T,U,Y,Z,a0,a1,a2,a3,a4,a5,a6,a7],[]⟩:Act) b:=by
 subst ho;have HX:=ae h;have i:aa (Below b.heap.size b b.drew):=ae ((ak _ b).drew);clear h
 conv=>arg 2;whnf
 refine wp_region_pm 16 (.rd 0 (.rd 1 (.rd 2 (.rd 3 (.rd 4 (.rd 5 (.rd 6 (.rd 7 (.rd 8 (.rd 9 (.rd 10 (.rd 12 (.rd 13 (.rd 14 (.rd 15 (.wr 11 .fin)))))))))))))))) (λw'=>Below b.heap.size b w') (by kernel_rfl) (by kernel_rfl) hQ i.o ?_;repeat
  first
  |refine aA (v:= ?_) (λw' n=> ?_) (λK f=> ?_)
   rotate_left
   ·have hc:=aj w' q (h7.o w' n);clear n;go_simp;try with_reducible rfl
   go_simp;refine f _ ?_;clear f K
  |refine aF (λK f=> ?_)
   go_simp;refine f _ ?_;clear f K
 refine az (λK f=> ?_);go_simp;refine(h6.o _ i.o).mono ?_;rintro e W1 ⟨rfl,p⟩;have k:aa (Below b.heap.size b W1):=ae (i.o.trans (p.mono i.o.size));refine f.out _ _ (λw'=>Below b.heap.size b w') (λ_ h=>h) k.o ?_;clear f K p;show wpList _ _ _ _ _ _;go_wp2;cases r<;>exact HX.o _ _ _ _ _ _ _ _ _ _ _ _ _ _ _ _ _ _ _ k.o
section
variable {w w' : World} {q g c ct : Nat} {M : Nat -> Prop} {m : X.M} {v : Value} {l : List HP}
def JX (w:World) (q g c:Nat) (M:Nat->Prop) (m:X.M) (b:J.B) (e:Ending) (w':World):Prop:=e= .returned (.string ⟨(m.rewrite b).2.toArray⟩)/\∃v' l',HR w q g c M (m.rewrite b).1 v' l' w'
theorem Vz (h:fH w q g c M m v l) (b:J.B) (a:X.bP [52,57] [3] m.mode≠X.good):
  Calls Tryz.prog 70 #[.pointer (some ⟨q,0,none⟩), .string ⟨b.toArray⟩, .bool false] w (JX w q g c M m b):=by
 unfold JX X.M.rewrite;rw[if_pos a];have d:=ae (iB h.row [52,57] 3 3 3 [3] (by simp) a);have f:=ae (fz h);obtain⟨i,j⟩:=jP (tB [52,57] [3] m.mode (by decide));clear h a;generalize(⟨(X.bP [52,57] [3] m.mode).toArray⟩:ByteArray)=S at d i j|-;go_enter Tryz.func70,Tryz.ntmps70;go_wp2_with fail;refine d.o.mono ?_;rintro e w1 ⟨rfl,rfl⟩;go_wp2;go_ret;exact⟨rfl,_,_,f.o⟩
theorem mj (d:l.map (·.1)=m.rows) {p:J.B} {j:Nat} (a:j<l.length) (b:X.val m.ks 0 (l[j]'a).1.b=p) (c:m.rows.Pairwise λx y=>X.val m.ks 0 x.b≠X.val m.ks 0 y.b):m.find p=some (l[j]'a).1:=by
 unfold X.M.find;rw[<-d]at c|-;refine jJ (p:=λr=>decide (X.val m.ks 0 r.b=p)) a (λt f g=>decide_eq_false (λe=> ?_)) (decide_eq_true b);have:=List.pairwise_iff_getElem.1 c t j (by rw[List.length_map];exact f) (by rw[List.length_map];exact a) g;rw[List.getElem_map,List.getElem_map]at this;exact this (e.trans b.symm)
theorem aeF (a:X.bP [52,57] [3] m.mode=X.good) (b:J.B):m.rewrite b=if X.bt m.ks m.size b=false then(m.aG,[52,52])
 else if m.ord=true/\m.read=false then(m.aG,[52,51])
 else if m.ord=true/\X.val m.ks 0 b≠m.last then(m.aG,[50,49])
 else match m.find (X.val m.ks 0 b)with
 |none=>(m.aG,[50,51])
 |some o=>if m.dh b (some o)=[50,50]then(m.aG,[50,50])else(m.aG.put b (some o),m.dh b (some o)):=by
 unfold X.M.rewrite;rw[if_neg (Decidable.not_not.2 a)];cases m.find (X.val m.ks 0 b)<;>rfl
theorem aaO (h:fH w q g c M m v l) (hM:∀k,M k->k<w.heap.size) (H:bY m l) (d1:X.aQ m.ks m.size ct m.rows) (d2:m.time<=100000) (b:J.B) (c9:b.length<=1000000) (hc:X.bP [52,57] [3] m.mode=X.good):
  Calls Tryz.prog 70 #[.pointer (some ⟨q,0,none⟩), .string ⟨b.toArray⟩, .bool false] w (JX w q g c M m b):=by
 have n:=ae (aeF hc b);have HM:=ae (eL h.row [52,57] 3 3 3 [3] (by simp) (by decide) hc);have d6:=aj w q h.row;have hz:=aD h.row;have HH:aa (HR w q g c M m.aG v l (w.setCell ⟨q,14,none⟩ (.bool false))):=ae ((fz h).set 14 (.bool false) (aB h.row 14 _) rfl rfl);have HF:aa (bY m.aG l):=ae ⟨H.fit,H.ts,H.ks,H.len⟩;have a8:=ae hM;have b0:=ae d2;have a7:=ae c9;have O:=ae h.eq;have G:=ae H.ks;have a1:=ae d1;have e2:(0:Int)<(m.aG.ks.length:Nat):=by have:=H.ks.one.1;show(0:Int)<(m.ks.length:Nat);omega
 generalize hS:(⟨b.toArray⟩:ByteArray)=S;have a2:=ae hS;clear h hM H d1 d2 c9 hc hS;go_enter Tryz.func70,Tryz.ntmps70;go_wp2_with fail;refine HM.o.mono ?_;rintro e w1 ⟨rfl,rfl⟩;clear HM;go_upto_region 6 with fail;refine aL (λY=>HR w q g c M m.aG v l Y) HH.o ?_;rintro W1 h1;have d4:=aj W1 q h1.2.row;have k1:W1.cell? ⟨g,0,none⟩=_:=h1.2.ks.at_ (i:=0) G.o.one.1;have k2:W1.cell? ⟨g,1,none⟩=_:=h1.2.ks.len (i:=0) G.o.one.1;have k3:W1.cell? ⟨g,2,none⟩=_:=h1.2.ks.dup (i:=0) G.o.one.1;have HZ:=ae (heap_alloc_new W1 dU);have a3:=ae ((ak _ W1).alloc (aq _) dU);have H1:=ae h1;clear h1 HH d6 hz;go_wp2_with (refine wpList_store_row rfl _ _ 66 rfl W1.heap.size rfl _ rfl _ _ HZ.o rfl (by kernel_rfl) rfl ?_);intro W2 d8 hg d9;have P:=ae (H1.o.below (a3.o.grown hg a3.o.size (λk e=>by injection e with e;omega)));have d5:=aj W2 q P.o.2.row;have C:=ae (zv P.o.2 G.o b a7.o);rw[a2.o]at C;rw[show X.bt m.aG.ks m.aG.size b=X.bt m.ks m.size b from rfl]at C;clear d8 hg d9 HZ a3 k1 k2 k3 d4 H1;cases DD:X.bt m.ks m.size b with
 |false=>
  rw[DD]at C;have p:=ae (n.o.trans (if_pos DD));clear DD;go_wp2_with fail;refine C.o.mono ?_;rintro e E ⟨rfl,f⟩;have H3:=ae (P.o.below f);clear f C;go_wp2;go_ret;unfold JX;rw[p.o];exact⟨rfl,_,_,H3.o⟩
 |true=>
  rw[DD]at C;replace n:=ae (n.o.trans (if_neg (by rw[DD];decide)));have a5:=ae DD;clear DD;go_wp2_with fail;refine C.o.mono ?_;rintro e E ⟨rfl,f⟩;have H3:=ae (P.o.below f);have a6:=aj E q H3.o.2.row;clear f C P d5;by_cases B:m.ord=true/\m.read=false
  ·have p:=ae (n.o.trans (if_pos B));have a0:m.aG.ord=true:=B.1;have d7:m.read=false:=B.2;clear B;go_wp2;go_ret;unfold JX;rw[p.o];exact⟨rfl,_,_,H3.o⟩
  ·replace n:=ae (n.o.trans (if_neg B));have A:=ae (λ(W:World) (f:Below E.heap.size E W)=>hpart_any (H3.o.below f).2.row (H3.o.below f).2.ks 0 G.o.one.1 b ((X.aS.1 a5.o).2 _ (X.aY G.o.one.1)) a7.o);have D:=ae (λ(W:World) (f:Below E.heap.size E W)=>(H3.o.below f).2.row);have Q:=ae (λ(W:World) (f:Below E.heap.size E W)=>nW (H3.o.below f).2 G.o HF.o.fit HF.o.len (X.val m.ks 0 b));rw[a2.o]at A;rw[show m.aG.ks=m.ks from rfl]at A;have L:=dt (X.val m.ks 0 b) m.last;generalize U:(⟨(X.val m.ks 0 b).toArray⟩:ByteArray)=VK at A Q L;have e1:=ae U;cases ho:m.ord with
   |false=>
    have a0:m.aG.ord=false:=ho;replace n:=ae (n.o.trans (if_neg (by rw[ho];simp)));clear B U L;go_upto_region 12 with fail;refine aeE (m:=m.aG) (VK:=VK) (λc a d v w h=>by cases d<;>exact h) (ae D.o) a0 _ _ _ _ _ _ _ _ _ _ _ _ _ _ _ _ _ _ _ _ _ _ _ _ _ _ _ _ _ _ _ _ _ _ _ _ _ _ _ _ _ _ _ _ _ _ _ _ _ _ _ _ _ _ _ _ _ _ _ _ _ _ _ _ _ _ _ _ _ _ _ _ _ _ _ _ _ _ _ _ _ _ _ _ _ _ _ _ _ _ _ _ _ _ _ _ _ _ _ _ _ _ _ _ _ _ _ _ _ _ _ _ _ _ _ _ _ _ _ _ _ _ _ _ _ _ _ ?_;intro b1 b2 b3 b4 b5 b6 b7 b8 b9 c0 c1 c2 c3 c4 c5 c6 c7 c8 W4 x;have a4:=ae x;have a9:=ae (A.o _ x);have d0:=aj W4 q (D.o _ x);clear x D A a6;go_wp2_with fail;refine a9.o.mono ?_;rintro e W5 ⟨rfl,f⟩;have F:=ae (a4.o.trans (f.mono a4.o.size));clear f a9 d0 a4;go_wp2_with fail;refine(Q.o _ F.o).mono ?_;rintro e W6 ⟨⟨z,rfl,hz⟩,f⟩;have t:=ae ((H3.o.below F.o).below f);clear f Q F;rcases hz with⟨j,r,rfl,K⟩|⟨rfl,Z⟩
    ·have V:=mj O.o r K a1.o.prim;have u:=ae (xn t.o.2 (λk hk=>av (a8.o k hk) t.o.1.size) HF.o b a5.o b0.o j (j:Nat) (.inl ⟨rfl,r⟩) (some (l[j]'r).1) (by rw[List.getElem?_eq_getElem r];rfl));have T:=ae (En (m:=m.aG) (b:=b) O.o a1.o.prim r K);rw[a2.o]at u;have e0:¬(j:Int)<0:=(by omega);replace n:=ae (n.o.trans (by rw[V]));clear V;generalize(l[j]'r).1=o at u T n;clear r K;go_wp2_with fail;refine u.o.mono ?_;rintro e W7 ⟨rfl,hw⟩;rw[show m.aG.dh b (some o)=m.dh b (some o)from rfl]at hw|-;rcases hw with⟨s,f⟩|⟨s,v',tv,N⟩
     ·have p:=ae (n.o.trans (if_pos s));have y:=ae (t.o.below f);rw[s];clear f s u;go_wp2;go_ret;unfold JX;rw[p.o];exact⟨rfl,_,_,y.o⟩
     ·have p:=ae (n.o.trans (if_neg s));have y:=ae (t.o.trans N);rw[T.o]at y;clear N s u;go_wp2;go_ret;unfold JX;rw[p.o];exact⟨rfl,_,_,y.o⟩
    ·have p:=ae (n.o.trans (by rw[rP O.o Z]));clear Z;go_wp2;go_ret;unfold JX;rw[p.o];exact⟨rfl,_,_,t.o⟩
   |true=>
    have a0:m.aG.ord=true:=ho;have d7:m.read=true:=by
     cases N:m.read with
     |true=>rfl
     |false=>exact absurd ⟨ho,N⟩ B
    by_cases I:X.val m.ks 0 b≠m.last
    ·have p:=ae (n.o.trans (if_pos ⟨ho,I⟩));rw[decide_eq_false I]at L;clear B U;go_upto_region 12 with fail;refine YE (m:=m.aG) (λc a d v w h=>by cases d<;>exact h) (ae D.o) a0 (ae A.o) true L _ _ _ _ _ _ _ _ _ _ _ _ _ _ _ _ _ _ _ _ _ _ _ _ _ _ _ _ _ _ _ _ _ _ _ _ _ _ _ _ _ _ _ _ _ _ _ _ _ _ _ _ _ _ _ _ _ _ _ _ _ _ _ _ _ _ _ _ _ _ _ _ _ _ _ _ _ _ _ _ _ _ _ _ _ _ _ _ _ _ _ _ _ _ _ _ _ _ _ _ _ _ _ _ _ _ _ _ _ _ _ _ _ _ _ _ _ _ _ _ _ _ _ _ _ _ _ ?_;intro b1 b2 b3 b4 b5 b6 b7 b8 b9 c0 c1 c2 c3 c4 c5 c6 c7 c8 W4 x;have H4:=ae (H3.o.below x);clear x D A a6;go_wp2;go_ret;unfold JX;rw[p.o];exact⟨rfl,_,_,H4.o⟩
    ·replace n:=ae (n.o.trans (if_neg (λhh=>I hh.2)));have I:X.val m.ks 0 b=m.last:=Classical.byContradiction I;rw[decide_eq_true I]at L;have d3:aa ((⟨m.aG.last.toArray⟩:ByteArray)=VK):=ae (by rw[<-U,I];rfl);clear B U;go_upto_region 12 with fail;refine YE (m:=m.aG) (λc a d v w h=>by cases d<;>exact h) (ae D.o) a0 (ae A.o) false L _ _ _ _ _ _ _ _ _ _ _ _ _ _ _ _ _ _ _ _ _ _ _ _ _ _ _ _ _ _ _ _ _ _ _ _ _ _ _ _ _ _ _ _ _ _ _ _ _ _ _ _ _ _ _ _ _ _ _ _ _ _ _ _ _ _ _ _ _ _ _ _ _ _ _ _ _ _ _ _ _ _ _ _ _ _ _ _ _ _ _ _ _ _ _ _ _ _ _ _ _ _ _ _ _ _ _ _ _ _ _ _ _ _ _ _ _ _ _ _ _ _ _ _ _ _ _ ?_;intro b1 b2 b3 b4 b5 b6 b7 b8 b9 c0 c1 c2 c3 c4 c5 c6 c7 c8 W4 x;have F:=ae x;have d0:=aj W4 q (D.o _ x);rw[d3.o];clear x D A a6 L;go_wp2_with fail;refine(Q.o _ F.o).mono ?_;rintro e W6 ⟨⟨z,rfl,hz⟩,f⟩;have t:=ae ((H3.o.below F.o).below f);clear f Q F;rcases hz with⟨j,r,rfl,K⟩|⟨rfl,Z⟩
     ·have V:=mj O.o r K a1.o.prim;have u:=ae (xn t.o.2 (λk hk=>av (a8.o k hk) t.o.1.size) HF.o b a5.o b0.o j (j:Nat) (.inl ⟨rfl,r⟩) (some (l[j]'r).1) (by rw[List.getElem?_eq_getElem r];rfl));have T:=ae (En (m:=m.aG) (b:=b) O.o a1.o.prim r K);rw[a2.o]at u;have e0:¬(j:Int)<0:=(by omega);replace n:=ae (n.o.trans (by rw[V]));clear V;generalize(l[j]'r).1=o at u T n;clear r K;go_wp2_with fail;refine u.o.mono ?_;rintro e W7 ⟨rfl,hw⟩;rw[show m.aG.dh b (some o)=m.dh b (some o)from rfl]at hw|-;rcases hw with⟨s,f⟩|⟨s,v',tv,N⟩
      ·have p:=ae (n.o.trans (if_pos s));have y:=ae (t.o.below f);rw[s];clear f s u;go_wp2;go_ret;unfold JX;rw[p.o];exact⟨rfl,_,_,y.o⟩
      ·have p:=ae (n.o.trans (if_neg s));have y:=ae (t.o.trans N);rw[T.o]at y;clear N s u;go_wp2;go_ret;unfold JX;rw[p.o];exact⟨rfl,_,_,y.o⟩
     ·have p:=ae (n.o.trans (by rw[rP O.o Z]));clear Z;go_wp2;go_ret;unfold JX;rw[p.o];exact⟨rfl,_,_,t.o⟩
end
noncomputable def VA:Code:=(Tryz.f70.body.bind (jG 21)).getD .skip
theorem YF {e:World} {q g c k j:Nat} {A:Option Addr} {m:X.M} {l:List HP} {Q:Exit->Act->World->Prop} (hQ:∀c a d v w,Q (.panic c) (Act.put a d v) w->Q (.panic c) a w) (G:e.heap[q]? =some (gz m g c (.slice A l.length k))) (W:l.length<=k) (D:rD e A l) (C:∀b o,A=some ⟨b,o,none⟩->o=0) (H:∀x∈l,gj x.2) (r:j<l.length) (a0:l.length<=1000000) (u1 u2 u3 u4 u5 u6 u7 u8 u9 a5 b7 b8 b9 c0 c1 c2 c3 c4 c5 c6 c7 c8 p5 d0 d1 d2 d3 d4 d5 d6 d7 d8 d9 e0 e1 e2 e3 e4 e5 e6 e7 e8 e9 f0 f1 f2 f3 f4 f5 f6 f7 f8 f9 g0 g1 g2 g3 g4 g5 g6 g7 g8 g9 h0 h1 h2 h3 h4 h5 h6 h7 h8 h9 i0 i1 i2 i3 i4 i5 i6 i7 i8 i9 j0 j1 j2 j3 j4 j5 j6 j7 j8 j9 k0 k1 k2 k3 k4 a6 a7 a8 a9 b0 b1 b2 b3 b4 b5 b6 n2 n3 n4 n5 n6 n7 n8 p6 o0 o1 o2 o3 o4 o5 o6 o7 o8 o9 p0:Value) (h:∀(k9 l0 l1 l2 l3 l4 l5 l6 l7 l8 l9 m0 m1 m2 m3 m4 m5 m6 m7 v':Value) (i:World),i.ownsRow e.heap.size 52 2 v' (l.length - 1) (bp (l.eraseIdx j))->Below e.heap.size e i->Q .normal (⟨#[.pointer (some ⟨q,0,none⟩),u1,u2,u3,u4,u5,u6,u7,u8,u9,a5, .int .i64 (j:Nat),b7,b8,b9,c0,c1,c2,c3,c4,c5,c6,c7,c8,p5,d0,d1,d2,d3,d4,d5,d6,d7,d8,d9,e0,e1,e2,e3,e4,e5,e6,e7,e8,e9,f0,f1,f2,f3,f4,f5,f6,f7,f8,f9,g0,g1,g2,g3,g4,g5,g6,g7,g8,g9,h0,h1,h2,h3,h4,h5,h6,h7,h8,h9,i0,i1,i2,i3,i4,i5,i6,i7,i8,i9,j0,j1,j2,j3,j4,j5,j6,j7,j8,j9,k0,k1,k2,k3,k4,a6,a7,a8,a9,b0,b1,b2,b3,b4,b5,b6,k9,l0,l1,l2,l3,l4,l5,l6,l7,l8,l9,m0,m1,m2,m3,m4,m5,m6,m7],[]⟩:Act) (i.setCell ⟨q,4,none⟩ v')):Code.wp Tryz.prog VA Q (⟨#[.pointer (some ⟨q,0,none⟩),u1,u2,u3,u4,u5,u6,u7,u8,u9,a5, .int .i64 (j:Nat),b7,b8,b9,c0,c1,c2,c3,c4,c5,c6,c7,c8,p5,d0,d1,d2,d3,d4,d5,d6,d7,d8,d9,e0,e1,e2,e3,e4,e5,e6,e7,e8,e9,f0,f1,f2,f3,f4,f5,f6,f7,f8,f9,g0,g1,g2,g3,g4,g5,g6,g7,g8,g9,h0,h1,h2,h3,h4,h5,h6,h7,h8,h9,i0,i1,i2,i3,i4,i5,i6,i7,i8,i9,j0,j1,j2,j3,j4,j5,j6,j7,j8,j9,k0,k1,k2,k3,k4,a6,a7,a8,a9,b0,b1,b2,b3,b4,b5,b6,n2,n3,n4,n5,n6,n7,n8,p6,o0,o1,o2,o3,o4,o5,o6,o7,o8,o9,p0],[]⟩:Act) e:=by
 have HX:=ae h;clear h
 conv=>arg 2;whnf
 have p:aa (Below e.heap.size e e.drew):=ae ((ak _ e).drew);obtain⟨A1,n0,a3⟩:=gJ (A:=A) (l:=l) (n:=l.length) (c:=k) rfl 0 j (Nat.zero_le _) (Nat.le_of_lt r) W none (some (.int .i64 (j:Nat))) (.inr ⟨rfl,rfl⟩) (.inl rfl) C;obtain⟨L,a2,a4⟩:=gJ (A:=A) (l:=l) (n:=l.length) (c:=k) rfl (j+1) l.length (by omega) (aq _) W (some (.int .i64 ((j+1:Nat):Int))) none (.inl rfl) (.inr ⟨rfl,rfl⟩) C;have n1:∀w,(Instr.sliceAt 31 (.slice A l.length k) (some (.int .i64 ((j:Int)+1))) none none).run Tryz.prog w= .ok (.slice L (l.length - (j+1)) (k - (j+1))) w:=λw=>a2 w;have S:=ae (a3 _ (D.below p.o));have T:=ae (a4 _ (D.below p.o));have u:=ae ((p.o.block q (ai G).1).trans G);have k7:=ae (λy (I:y∈(l.take j).drop 0)=>H y (List.mem_of_mem_take (List.mem_of_mem_drop I)));have k8:=ae (λy (I:y∈(l.take l.length).drop (j+1))=>H y (List.mem_of_mem_take (List.mem_of_mem_drop I)));have k5:=ae (show((l.take j).drop 0).length=j - 0 by rw[List.length_drop,List.length_take];omega);have k6:=ae (show((l.take l.length).drop (j+1)).length=l.length - (j+1) by rw[List.length_drop,List.length_take];omega);have p2:wrap64 ((j:Int)+1)=((j+1:Nat):Int):=by rw[IntWalk.wrap64_in _ (by omega)];rfl
 have p3:IntKind.i64.wrap ((j:Int)+1)=((j+1:Nat):Int):=by rw[IntKind.wrap_i64];omega
 have B:aa (∀v' i,i.ownsRow e.drew.heap.size 52 2 v' (0+(j - 0)+(l.length - (j+1))) (bp (([]++(l.take j).drop 0)++(l.take l.length).drop (j+1)))->Below e.drew.heap.size e.drew i->i.ownsRow e.heap.size 52 2 v' (l.length - 1) (bp (l.eraseIdx j))/\Below e.heap.size e i):=ae (λv' i ho hb=>by
  rw[show 0+(j - 0)+(l.length - (j+1))=l.length - 1 by omega,List.nil_append,List.drop_zero,List.take_length,<-List.eraseIdx_eq_take_drop_succ]at ho;exact⟨qR ho p.o.size,p.o.trans (hb.mono p.o.size)⟩)
 have N:=ae (show j<l.length/\l.length<=1000000 from⟨r,a0⟩);clear a3 a4 D G H a0 C;refine wp_region_pm 17 (.rd 0 (.rd 2 (.rd 3 (.rd 4 (.rd 5 (.rd 6 (.rd 7 (.rd 9 (.rd 10 (.rd 11 (.rd 12 (.rd 13 (.rd 14 (.rd 15 (.wr 1 (.wr 8 (.wr 16 .fin))))))))))))))))) (λw'=>Below e.drew.heap.size e.drew w') (by kernel_rfl) (by kernel_rfl) hQ (ak _ _) ?_;generalize e.drew=V at S T u B p|-;repeat
  refine aA (v:= ?_) (λw' U=> ?_) (λK f=> ?_);rotate_left
  ·have hc:=aj w' q ((U.block q (ai u.o).1).trans u.o);clear U;go_simp;try with_reducible rfl
  go_simp;refine f _ ?_;clear f K
 clear n0 a2 n1;refine az (λK f=> ?_);go_simp;have P:aa (World.ownsRow (V.alloc (.cells #[] 52)) V.heap.size 52 2 (.slice (some ⟨V.heap.size,0,none⟩) 0 0) 0 (bp [])):=ae (tk (base:=V.heap.size) V (aq _));have s:=ae ((ak V.heap.size V).alloc (aq _) (.cells #[] 52));refine f.out _ _ (λw'=>Below V.heap.size V w') (λ_ h=>h) s.o ?_;clear f K;refine az (λK f=> ?_);refine(if_pos (by rfl)).mpr ?_;refine ep _ _ (by rfl) V.heap.size (.slice (some ⟨V.heap.size,0,none⟩) 0 0) 0 [] (by rfl) P.o A1 (j - 0) (k - 0) ((l.take j).drop 0) (by rfl) (S.o.below s.o) k5.o k7.o (by have:=N.o;omega) s.o.size ?_;intro v8 x8 a1 Y m8;have t:=ae (s.o.grown Y s.o.size (λj r=>(P.o.lt j r).1));have O:=ae a1;clear a1 Y m8;refine f.out _ _ (λw'=>Below V.heap.size V w') (λ_ h=>h) t.o ?_;clear f K;refine az (λK f=> ?_);refine(if_pos (by rfl)).mpr ?_;refine ep _ _ (by rfl) V.heap.size v8 (0+(j - 0)) ([]++(l.take j).drop 0) (by rfl) O.o L (l.length - (j+1)) (k - (j+1)) ((l.take l.length).drop (j+1)) (by rfl) (T.o.below t.o) k6.o k8.o (by have:=N.o;omega) t.o.size ?_;intro v9 x9 E Z m9;have z:=ae (t.o.grown Z t.o.size (λj r=>(O.o.lt j r).1));have M:=ae (B.o _ _ E z.o);obtain⟨A9,n9,c9,rfl⟩:=dL E;clear E Z m9 B;refine f.out _ _ (λw'=>Below V.heap.size V w') (λ_ h=>h) z.o ?_;clear f K;have F:=(z.o.block q (ai u.o).1).trans u.o;have p1:=aj x9 q F;have p4:=aD F;clear F;show wpList _ _ _ _ _ _;go_wp2;exact HX.o _ _ _ _ _ _ _ _ _ _ _ _ _ _ _ _ _ _ _ _ _ M.o.1 M.o.2
theorem aaR {b:World} {q g c:Nat} {m:X.M} {v:Value} {S LA:ByteArray} {o:Bool} {Q:Exit->Act->World->Prop} (hQ:∀c a d v w,Q (.panic c) (Act.put a d v) w->Q (.panic c) a w) (h0:aa (∀w',Below b.heap.size b w'->w'.heap[q]? =some (.cells #[.string ⟨#[102]⟩, .int .i64 (m.size:Nat), .slice (some ⟨g,0,none⟩) m.ks.length c, .bool m.there,v, .int .i64 (m.time:Nat), .int .u8 (m.mode:Nat), .bool o, .int .i64 (m.key:Nat), .bool m.lost, .string ⟨m.value.toArray⟩, .int .i64 (m.at_:Nat), .bool m.same, .string LA, .bool m.read, .string ⟨m.written.toArray⟩] 34 (0,0)))) (ho:o=false) (u3 u4 u5 u6 u7 u8 u9 k A N a2 a3 a4 a5 a6 a7 a8 a9 b0 b1 b2 b3 b4 b5 b6 b7 b8 b9 c0 c1 c2 c3 c4 c5 c6 c7 c8 c9 d0 d1 d2 d3 d4 d5 d6 d7 d8 d9 e0 e1 e2 e3 e4 e5 e6 e7 e8 e9 f0 f1 f2 f3 f4 f5 f6 f7 f8 f9 g0 g1 i9 j0 j1 j2 j3 j4 j5 j6 j7 j8 j9 k0 k1 k2 k3 k4 k5 k6 k7 g2 g3 g4 g5 g6 g7 g8 g9 l n p r s t u x y z B C D E F G H I L M O P T U V W Y Z a0 a1:Value) (h:∀(h1 h2 h3 h4 h5 h6 h7 h8 h9 i0 i1 i2 i3 i4 i5 i6 i7 i8:Value) (W':World),Below b.heap.size b W'->Q .normal (⟨#[.pointer (some ⟨q,0,none⟩), .string S, .bool true,u3,u4,u5,u6,u7,u8,u9,k,A,N,a2,a3,a4,a5,a6,a7,a8,a9,b0,b1,b2,b3,b4,b5,b6,b7,b8,b9,c0,c1,c2,c3,c4,c5,c6,c7,c8,c9,d0,d1,d2,d3,d4,d5,d6,d7,d8,d9,e0,e1,e2,e3,e4,e5,e6,e7,e8,e9,f0,f1,f2,f3,f4,f5,f6,f7,f8,f9,g0,g1, .bool false,h1,h2,h3,h4,h5,h6,h7,h8,h9,i0,i1,i2,i3,i4,i5,i6,i7,i8,g2,g3,g4,g5,g6,g7,g8,g9,l,n,p,r,s,t,u,x,y,z,B,C,D,E,F,G,H,I,L,M,O,P,T,U,V,W,Y,Z,a0,a1],[]⟩:Act) W'):Code.wp Tryz.prog vz Q (⟨#[.pointer (some ⟨q,0,none⟩), .string S, .bool true,u3,u4,u5,u6,u7,u8,u9,k,A,N,a2,a3,a4,a5,a6,a7,a8,a9,b0,b1,b2,b3,b4,b5,b6,b7,b8,b9,c0,c1,c2,c3,c4,c5,c6,c7,c8,c9,d0,d1,d2,d3,d4,d5,d6,d7,d8,d9,e0,e1,e2,e3,e4,e5,e6,e7,e8,e9,f0,f1,f2,f3,f4,f5,f6,f7,f8,f9,g0,g1,i9,j0,j1,j2,j3,j4,j5,j6,j7,j8,j9,k0,k1,k2,k3,k4,k5,k6,k7,g2,g3,g4,g5,g6,g7,g8,g9,l,n,p,r,s,t,u,x,y,z,B,C,D,E,F,G,H,I,L,M,O,P,T,U,V,W,Y,Z,a0,a1],[]⟩:Act) b:=by
 subst ho;have HX:=ae h;have f:aa (Below b.heap.size b b.drew):=ae ((ak _ b).drew);clear h
 conv=>arg 2;whnf
 refine wp_region_pm 16 (.rd 0 (.rd 1 (.rd 2 (.rd 3 (.rd 4 (.rd 5 (.rd 6 (.rd 7 (.rd 8 (.rd 9 (.rd 10 (.rd 12 (.rd 13 (.rd 14 (.rd 15 (.wr 11 .fin)))))))))))))))) (λw'=>Below b.heap.size b w') (by kernel_rfl) (by kernel_rfl) hQ f.o ?_;repeat
  first
  |refine aA (v:= ?_) (λw' i=> ?_) (λK e=> ?_)
   rotate_left
   ·have hc:=aj w' q (h0.o w' i);clear i;go_simp;try with_reducible rfl
   go_simp;refine e _ ?_;clear e K
  |refine aF (λK e=> ?_)
   go_simp;refine e _ ?_;clear e K
 refine dR (by rfl) (by rfl) (λK e=> ?_);go_simp;refine e.out _ _ (λw'=>Below b.heap.size b w') (λ_ h=>h) f.o ?_;clear e K;show wpList _ _ _ _ _ _;go_wp2;exact HX.o _ _ _ _ _ _ _ _ _ _ _ _ _ _ _ _ _ _ _ f.o
theorem aaS {b:World} {q g c:Nat} {m:X.M} {v:Value} {S LA:ByteArray} {o:Bool} {Q:Exit->Act->World->Prop} (hQ:∀c a d v w,Q (.panic c) (Act.put a d v) w->Q (.panic c) a w) (h0:aa (∀w',Below b.heap.size b w'->w'.heap[q]? =some (.cells #[.string ⟨#[102]⟩, .int .i64 (m.size:Nat), .slice (some ⟨g,0,none⟩) m.ks.length c, .bool m.there,v, .int .i64 (m.time:Nat), .int .u8 (m.mode:Nat), .bool o, .int .i64 (m.key:Nat), .bool m.lost, .string ⟨m.value.toArray⟩, .int .i64 (m.at_:Nat), .bool m.same, .string LA, .bool m.read, .string ⟨m.written.toArray⟩] 34 (0,0)))) (ho:o=true) (u3 u4 u5 u6 u7 u8 u9 k A N a2 a3 a4 a5 a6 a7 a8 a9 b0 b1 b2 b3 b4 b5 b6 b7 b8 b9 c0 c1 c2 c3 c4 c5 c6 c7 c8 c9 d0 d1 d2 d3 d4 d5 d6 d7 d8 d9 e0 e1 e2 e3 e4 e5 e6 e7 e8 e9 f0 f1 f2 f3 f4 f5 f6 f7 f8 f9 g0 g1 i9 j0 j1 j2 j3 j4 j5 j6 j7 j8 j9 k0 k1 k2 k3 k4 k5 k6 k7 g2 g3 g4 g5 g6 g7 g8 g9 l n p r s t u x y z B C D E F G H I L M O P T U V W Y Z a0 a1:Value) (h:∀(h1 h2 h3 h4 h5 h6 h7 h8 h9 i0 i1 i2 i3 i4 i5 i6 i7 i8:Value) (W':World),Below b.heap.size b W'->Q .normal (⟨#[.pointer (some ⟨q,0,none⟩), .string S, .bool true,u3,u4,u5,u6,u7,u8,u9,k,A,N,a2,a3,a4,a5,a6,a7,a8,a9,b0,b1,b2,b3,b4,b5,b6,b7,b8,b9,c0,c1,c2,c3,c4,c5,c6,c7,c8,c9,d0,d1,d2,d3,d4,d5,d6,d7,d8,d9,e0,e1,e2,e3,e4,e5,e6,e7,e8,e9,f0,f1,f2,f3,f4,f5,f6,f7,f8,f9,g0,g1, .bool false,h1,h2,h3,h4,h5,h6,h7,h8,h9,i0,i1,i2,i3,i4,i5,i6,i7,i8,g2,g3,g4,g5,g6,g7,g8,g9,l,n,p,r,s,t,u,x,y,z,B,C,D,E,F,G,H,I,L,M,O,P,T,U,V,W,Y,Z,a0,a1],[]⟩:Act) W'):Code.wp Tryz.prog vz Q (⟨#[.pointer (some ⟨q,0,none⟩), .string S, .bool true,u3,u4,u5,u6,u7,u8,u9,k,A,N,a2,a3,a4,a5,a6,a7,a8,a9,b0,b1,b2,b3,b4,b5,b6,b7,b8,b9,c0,c1,c2,c3,c4,c5,c6,c7,c8,c9,d0,d1,d2,d3,d4,d5,d6,d7,d8,d9,e0,e1,e2,e3,e4,e5,e6,e7,e8,e9,f0,f1,f2,f3,f4,f5,f6,f7,f8,f9,g0,g1,i9,j0,j1,j2,j3,j4,j5,j6,j7,j8,j9,k0,k1,k2,k3,k4,k5,k6,k7,g2,g3,g4,g5,g6,g7,g8,g9,l,n,p,r,s,t,u,x,y,z,B,C,D,E,F,G,H,I,L,M,O,P,T,U,V,W,Y,Z,a0,a1],[]⟩:Act) b:=by
 subst ho;have HX:=ae h;have f:aa (Below b.heap.size b b.drew):=ae ((ak _ b).drew);clear h
 conv=>arg 2;whnf
 refine wp_region_pm 16 (.rd 0 (.rd 1 (.rd 2 (.rd 3 (.rd 4 (.rd 5 (.rd 6 (.rd 7 (.rd 8 (.rd 9 (.rd 10 (.rd 12 (.rd 13 (.rd 14 (.rd 15 (.wr 11 .fin)))))))))))))))) (λw'=>Below b.heap.size b w') (by kernel_rfl) (by kernel_rfl) hQ f.o ?_;repeat
  first
  |refine aA (v:= ?_) (λw' i=> ?_) (λK e=> ?_)
   rotate_left
   ·have hc:=aj w' q (h0.o w' i);clear i;go_simp;try with_reducible rfl
   go_simp;refine e _ ?_;clear e K
  |refine aF (λK e=> ?_)
   go_simp;refine e _ ?_;clear e K
 refine dR (by rfl) (by rfl) (λK e=> ?_);go_simp;refine e.out _ _ (λw'=>Below b.heap.size b w') (λ_ h=>h) f.o ?_;clear e K;show wpList _ _ _ _ _ _;go_wp2;exact HX.o _ _ _ _ _ _ _ _ _ _ _ _ _ _ _ _ _ _ _ f.o
section
variable {w w' : World} {q g c ct : Nat} {M : Nat -> Prop} {m : X.M} {v : Value} {l : List HP}
def Re (w:World) (q g c:Nat) (M:Nat->Prop) (m:X.M) (b:J.B) (e:Ending) (w':World):Prop:=e= .returned (.string ⟨(m.delete b).2.toArray⟩)/\∃v' l',HR w q g c M (m.delete b).1 v' l' w'
theorem JY {f b:World} {a:Value} {j:Nat} {p:J.B} (h:HR w q g c M m.aG v l f) (y:j<l.length) (o:b.ownsRow f.heap.size 52 2 a (l.length - 1) (bp (l.eraseIdx j))) (t:Below f.heap.size f b)
  (s:∀k,M k->k<w.heap.size) (u:m.rows.filter (λr=>decide (X.val m.ks 0 r.b≠p))=(l.map (·.1)).eraseIdx j):HR w q g c M (m.aG.gone p) a (l.eraseIdx j) (b.setCell ⟨q,4,none⟩ a):=by
 have d:=h.below t;have z:(l.eraseIdx j).length=l.length - 1:=List.length_eraseIdx_of_lt y;rw[<-z]at o;have D:lU b M a (l.eraseIdx j):=rE o (λk n=>av (s k n) h.1.size) (λx E=>d.2.rows.tm x (List.mem_of_mem_eraseIdx E));have i:=ay (World.grownBy.refl b (some q)) 4 a;have C:lU (b.setCell ⟨q,4,none⟩ a) M a (l.eraseIdx j):=D.keep i.size (λk n A=>i.block k n (λe=>A (by injection e with e;rw[e];exact d.2.nq))) (λ_ _ h=>h);have B:=aB d.2.row 4 a;exact⟨jK d.1 i,d.2.QI (m':=m.aG.gone p) i (by rw[B];rfl) rfl C (by
  show _=m.rows.filter _;rw[<-tC];exact u.symm)⟩
theorem aeJ (a:X.bP [52,57] [3] m.mode=X.good) (b:J.B):m.delete b=if m.ord=false/\b.length<(X.aH m.ks 0).at_+(X.aH m.ks 0).len then(m.aG,[52,52])
 else if m.ord=true/\m.read=false then(m.aG,[52,51])
 else match m.find (if m.ord=true then m.last else X.val m.ks 0 b)with
 |none=>(m.aG,[50,51])
 |some _=>(m.aG.gone (if m.ord=true then m.last else X.val m.ks 0 b),X.good):=by
 unfold X.M.delete;rw[if_neg (Decidable.not_not.2 a)];cases m.find (if m.ord=true then m.last else X.val m.ks 0 b)<;>rfl
theorem VC (h:fH w q g c M m v l) (b:J.B) (a:X.bP [52,57] [3] m.mode≠X.good):
  Calls Tryz.prog 70 #[.pointer (some ⟨q,0,none⟩), .string ⟨b.toArray⟩, .bool true] w (Re w q g c M m b):=by
 unfold Re X.M.delete;rw[if_pos a];have d:=ae (iB h.row [52,57] 3 3 3 [3] (by simp) a);have f:=ae (fz h);obtain⟨i,j⟩:=jP (tB [52,57] [3] m.mode (by decide));clear h a;generalize(⟨(X.bP [52,57] [3] m.mode).toArray⟩:ByteArray)=S at d i j|-;go_enter Tryz.func70,Tryz.ntmps70;go_wp2_with fail;refine d.o.mono ?_;rintro e w1 ⟨rfl,rfl⟩;go_wp2;go_ret;exact⟨rfl,_,_,f.o⟩
theorem aaT (h:fH w q g c M m v l) (hM:∀k,M k->k<w.heap.size) (t:bY m l) (b6:X.aQ m.ks m.size ct m.rows) (b:J.B) (b1:b.length<=1000000) (hc:X.bP [52,57] [3] m.mode=X.good):
  Calls Tryz.prog 70 #[.pointer (some ⟨q,0,none⟩), .string ⟨b.toArray⟩, .bool true] w (Re w q g c M m b):=by
 have n:=ae (aeJ hc b);have HM:=ae (eL h.row [52,57] 3 3 3 [3] (by simp) (by decide) hc);have f9:=aj w q h.row;have hz:=aD h.row;have HH:aa (HR w q g c M m.aG v l (w.setCell ⟨q,14,none⟩ (.bool false))):=ae ((fz h).set 14 (.bool false) (aB h.row 14 _) rfl rfl);have G:aa (bY m.aG l):=ae ⟨t.fit,t.ts,t.ks,t.len⟩;have a9:=ae hM;have b8:=ae b1;have F:=ae h.eq;have I:=ae t.ks;have a2:=ae b6;have g1:(0:Int)<(m.aG.ks.length:Nat):=by have:=t.ks.one.1;show(0:Int)<(m.ks.length:Nat);omega
 have a6:(⟨b.toArray⟩:ByteArray).size=b.length:=bm b;have g0:=t.ks.key _ (X.aY t.ks.one.1);have a7:=t.ks.size;have hw:wrap64 (((X.aH m.aG.ks 0).at_:Int)+(X.aH m.aG.ks 0).len)=(((X.aH m.aG.ks 0).at_+(X.aH m.aG.ks 0).len:Nat):Int):=by show wrap64 (((X.aH m.ks 0).at_:Int)+(X.aH m.ks 0).len)=(((X.aH m.ks 0).at_+(X.aH m.ks 0).len:Nat):Int);rw[IntWalk.wrap64_in _ (by omega)];omega
 generalize hS:(⟨b.toArray⟩:ByteArray)=S at a6|-;have b9:=ae hS;clear h hM t b6 b1 hc hS g0 a7;go_enter Tryz.func70,Tryz.ntmps70;go_wp2_with fail;refine HM.o.mono ?_;rintro e w1 ⟨rfl,rfl⟩;clear HM;go_upto_region 6 with fail;refine aL (λY=>HR w q g c M m.aG v l Y) HH.o ?_;rintro W1 h1;have f8:=aj W1 q h1.2.row;have k1:W1.cell? ⟨g,0,none⟩=_:=h1.2.ks.at_ (i:=0) I.o.one.1;have k2:W1.cell? ⟨g,1,none⟩=_:=h1.2.ks.len (i:=0) I.o.one.1;have k3:W1.cell? ⟨g,2,none⟩=_:=h1.2.ks.dup (i:=0) I.o.one.1;have HZ:=ae (heap_alloc_new W1 dU);have a3:=ae ((ak _ W1).alloc (aq _) dU);have H1:=ae h1;clear h1 HH f9 hz;go_wp2_with (refine wpList_store_row rfl _ _ 66 rfl W1.heap.size rfl _ rfl _ _ HZ.o rfl (by kernel_rfl) rfl ?_);intro s b7 hg a7;have H3:=ae (H1.o.below (a3.o.grown hg a3.o.size (λk e=>by injection e with e;omega)));have b2:=aj s q H3.o.2.row;have b4:=aj s W1.heap.size b7;have K:=ae (λ(W:World) (f:Below s.heap.size s W)=>(H3.o.below f).2.row);clear b7 hg a7 HZ a3 k1 k2 k3 f8 H1;cases ho:m.ord with
 |false=>
  have a5:m.aG.ord=false:=ho;by_cases a1:b.length<(X.aH m.ks 0).at_+(X.aH m.ks 0).len
  ·have p:=ae (n.o.trans (if_pos ⟨ho,a1⟩));have b5:(b.length:Int)<(((X.aH m.aG.ks 0).at_+(X.aH m.aG.ks 0).len:Nat):Int):=(by show(b.length:Int)<(((X.aH m.ks 0).at_+(X.aH m.ks 0).len:Nat):Int);omega);clear a1;go_wp2;go_ret;unfold Re;rw[p.o];exact⟨rfl,_,_,H3.o⟩
  ·replace n:=ae ((n.o.trans (if_neg (λhh=>a1 hh.2))).trans (if_neg (by rw[ho];simp)));rw[ho,if_neg (show¬(false=true) by decide)]at n;have b5:¬(b.length:Int)<(((X.aH m.aG.ks 0).at_+(X.aH m.aG.ks 0).len:Nat):Int):=(by show¬(b.length:Int)<(((X.aH m.ks 0).at_+(X.aH m.ks 0).len:Nat):Int);omega);have N:=ae (λ(W:World) (f:Below s.heap.size s W)=>hpart_any (H3.o.below f).2.row (H3.o.below f).2.ks 0 I.o.one.1 b (Nat.le_of_not_lt a1) b8.o);have H:=ae (λ(W:World) (f:Below s.heap.size s W)=>nW (H3.o.below f).2 I.o G.o.fit G.o.len (X.val m.ks 0 b));rw[b9.o]at N;rw[show m.aG.ks=m.ks from rfl]at N;generalize f7:(⟨(X.val m.ks 0 b).toArray⟩:ByteArray)=VK at N H;clear a1 f7;go_upto_region 12 with fail;refine aaR (m:=m.aG) (λc a d v w h=>by cases d<;>exact h) (ae K.o) a5 _ _ _ _ _ _ _ _ _ _ _ _ _ _ _ _ _ _ _ _ _ _ _ _ _ _ _ _ _ _ _ _ _ _ _ _ _ _ _ _ _ _ _ _ _ _ _ _ _ _ _ _ _ _ _ _ _ _ _ _ _ _ _ _ _ _ _ _ _ _ _ _ _ _ _ _ _ _ _ _ _ _ _ _ _ _ _ _ _ _ _ _ _ _ _ _ _ _ _ _ _ _ _ _ _ _ _ _ _ _ _ _ _ _ _ _ _ _ _ _ _ _ _ _ _ _ _ ?_;intro c0 c1 c2 c3 c4 c5 c6 c7 c8 c9 d0 d1 d2 d3 d4 d5 d6 d7 W4 y;have a4:=ae y;have b0:=ae (N.o _ y);have b3:=aj W4 q (K.o _ y);clear y K N b2 b4 b5 hw a6;go_wp2_with fail;refine b0.o.mono ?_;rintro e W5 ⟨rfl,f⟩;have A:=ae (a4.o.trans (f.mono a4.o.size));clear f b0 b3 a4;go_wp2_with fail;refine(H.o _ A.o).mono ?_;rintro e W6 ⟨⟨z,rfl,hz⟩,f⟩;have o:=ae ((H3.o.below A.o).below f);clear f H A;rcases hz with⟨j,x,rfl,D⟩|⟨rfl,V⟩
   ·have p:aa (m.delete b=(m.aG.gone (X.val m.ks 0 b),X.good)):=ae (n.o.trans (by rw[mj F.o x D a2.o.prim]));have L:aa (m.rows.filter (λr=>decide (X.val m.ks 0 r.b≠X.val m.ks 0 b))=(l.map (·.1)).eraseIdx j):=ae (by
     have a0:=a2.o.prim;rw[<-F.o]at a0|-;exact iP a0 (by rw[List.length_map];exact x) (by rw[List.getElem_map];exact D))
    have a8:¬(j:Int)<0:=(by omega);obtain⟨Av,cv,E,U,Q,_,P⟩:=o.o.2.rows.aU;have HV:=ae E;have C:=ae o.o.2.row;rw[E]at C;have u:=ae (And.intro U (And.intro Q P));have O:=ae o.o.2.rows.sls;have B:=ae x;clear x D E U Q P;go_upto_region 21 with fail;refine YF (λc a d v w h=>by cases d<;>exact h) C.o u.o.1 u.o.2.1 u.o.2.2 O.o B.o G.o.len _ _ _ _ _ _ _ _ _ _ _ _ _ _ _ _ _ _ _ _ _ _ _ _ _ _ _ _ _ _ _ _ _ _ _ _ _ _ _ _ _ _ _ _ _ _ _ _ _ _ _ _ _ _ _ _ _ _ _ _ _ _ _ _ _ _ _ _ _ _ _ _ _ _ _ _ _ _ _ _ _ _ _ _ _ _ _ _ _ _ _ _ _ _ _ _ _ _ _ _ _ _ _ _ _ _ _ _ _ _ _ _ _ _ _ _ _ _ _ _ _ _ _ _ _ _ _ _ ?_;intro d8 d9 e0 e1 e2 e3 e4 e5 e6 e7 e8 e9 f0 f1 f2 f3 f4 f5 f6 v9 x9 Z T;have H9:=ae (JY o.o B.o Z T a9.o L.o);clear Z T C u O L B a8;go_wp2;go_ret;unfold Re;rw[p.o];exact⟨rfl,_,_,H9.o⟩
   ·have p:aa (m.delete b=(m.aG,[50,51])):=ae (n.o.trans (by rw[rP F.o V]));clear V;go_wp2;go_ret;unfold Re;rw[p.o];exact⟨rfl,_,_,o.o⟩
 |true=>
  have a5:m.aG.ord=true:=ho;replace n:=ae (n.o.trans (if_neg (by rw[ho];simp)));cases jU:m.read with
  |false=>
   have p:=ae (n.o.trans (if_pos ⟨ho,jU⟩));go_wp2;go_ret;unfold Re;rw[p.o];exact⟨rfl,_,_,H3.o⟩
  |true=>
   replace n:=ae (n.o.trans (if_neg (by rw[jU];simp)));rw[if_pos ho]at n;have H:=ae (λ(W:World) (f:Below s.heap.size s W)=>nW (H3.o.below f).2 I.o G.o.fit G.o.len m.last);go_upto_region 12 with fail;refine aaS (m:=m.aG) (λc a d v w h=>by cases d<;>exact h) (ae K.o) a5 _ _ _ _ _ _ _ _ _ _ _ _ _ _ _ _ _ _ _ _ _ _ _ _ _ _ _ _ _ _ _ _ _ _ _ _ _ _ _ _ _ _ _ _ _ _ _ _ _ _ _ _ _ _ _ _ _ _ _ _ _ _ _ _ _ _ _ _ _ _ _ _ _ _ _ _ _ _ _ _ _ _ _ _ _ _ _ _ _ _ _ _ _ _ _ _ _ _ _ _ _ _ _ _ _ _ _ _ _ _ _ _ _ _ _ _ _ _ _ _ _ _ _ _ _ _ _ ?_;intro c0 c1 c2 c3 c4 c5 c6 c7 c8 c9 d0 d1 d2 d3 d4 d5 d6 d7 W4 y;have A:=ae y;have b3:=aj W4 q (K.o _ y);clear y K b2 b4 hw a6;go_wp2_with fail;refine(H.o _ A.o).mono ?_;rintro e W6 ⟨⟨z,rfl,hz⟩,f⟩;have o:=ae ((H3.o.below A.o).below f);clear f H A;rcases hz with⟨j,x,rfl,D⟩|⟨rfl,V⟩
   ·have p:aa (m.delete b=(m.aG.gone (m.last),X.good)):=ae (n.o.trans (by rw[mj F.o x D a2.o.prim]));have L:aa (m.rows.filter (λr=>decide (X.val m.ks 0 r.b≠m.last))=(l.map (·.1)).eraseIdx j):=ae (by
     have a0:=a2.o.prim;rw[<-F.o]at a0|-;exact iP a0 (by rw[List.length_map];exact x) (by rw[List.getElem_map];exact D))
    have a8:¬(j:Int)<0:=(by omega);obtain⟨Av,cv,E,U,Q,_,P⟩:=o.o.2.rows.aU;have HV:=ae E;have C:=ae o.o.2.row;rw[E]at C;have u:=ae (And.intro U (And.intro Q P));have O:=ae o.o.2.rows.sls;have B:=ae x;clear x D E U Q P;go_upto_region 21 with fail;refine YF (λc a d v w h=>by cases d<;>exact h) C.o u.o.1 u.o.2.1 u.o.2.2 O.o B.o G.o.len _ _ _ _ _ _ _ _ _ _ _ _ _ _ _ _ _ _ _ _ _ _ _ _ _ _ _ _ _ _ _ _ _ _ _ _ _ _ _ _ _ _ _ _ _ _ _ _ _ _ _ _ _ _ _ _ _ _ _ _ _ _ _ _ _ _ _ _ _ _ _ _ _ _ _ _ _ _ _ _ _ _ _ _ _ _ _ _ _ _ _ _ _ _ _ _ _ _ _ _ _ _ _ _ _ _ _ _ _ _ _ _ _ _ _ _ _ _ _ _ _ _ _ _ _ _ _ _ ?_;intro d8 d9 e0 e1 e2 e3 e4 e5 e6 e7 e8 e9 f0 f1 f2 f3 f4 f5 f6 v9 x9 Z T;have H9:=ae (JY o.o B.o Z T a9.o L.o);clear Z T C u O L B a8;go_wp2;go_ret;unfold Re;rw[p.o];exact⟨rfl,_,_,H9.o⟩
   ·have p:aa (m.delete b=(m.aG,[50,51])):=ae (n.o.trans (by rw[rP F.o V]));clear V;go_wp2;go_ret;unfold Re;rw[p.o];exact⟨rfl,_,_,o.o⟩
end
end Go.Proofs.YtipljcmmokaokaaGreat
