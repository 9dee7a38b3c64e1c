import Derived.Test.YtipljcmmokaokaaGreatQ23
set_option linter.unusedVariables false
set_option linter.unusedSimpArgs false
set_option maxHeartbeats 40000000
namespace Go.Proofs.YtipljcmmokaokaaGreat
open Go.RowKit Go.Lib Go.Maps Go.WideMaps Go.Sort
set_option maxRecDepth 100000
section
variable {w0 : World} {p pf q g c u : Nat} {nm : J.B} {fs : List (Nat × Obj)} {B : List Nat} {m : X.M} {L : List (List (J.B × J.B))}
theorem WZ (what key n:Nat) (a:Option Addr) (d:Nat) (b:J.B) (od:Bool) (w:World) (s:rU w0 p pf nm u q g c fs B m L n a d b w) (hw:(what:Int).tmod 12=5):
  Calls Tryz.prog 22 #[.pointer (some ⟨pf,0,none⟩), .pointer (some ⟨q,0,none⟩), .agg #[.int .u8 what, .int .u8 key, .int .u8 n, .slice a b.length d], .bool od] w (Nn w0 p pf nm u q g c fs B (m.get (((key%5:Nat):Int) - 1) (rc b)).1 L):=by
 have r5:(key:Int).tmod 5=((key%5:Nat):Int):=rfl;have b5:key%5<5:=Nat.mod_lt _ (by decide);generalize key%5=f at b5 r5|-;have b9:wrap64 ((f:Int) - 1)=(f:Int) - 1:=IntWalk.wrap64_in _ (by omega);have c0:IntKind.i64.wrap ((f:Int) - 1)=(f:Int) - 1:=by rw[IntKind.wrap_i64];omega
 have N:=heap_alloc_new w (cC what key n a b.length d);have K:=(ak w.heap.size w).alloc (aq _) (cC what key n a b.length d);have O:=aj _ w.heap.size N;have S:=ae N;have z:=ae K;have U:=ae (kU _ b bE (w.alloc (cC what key n a b.length d)) (s.sl.step (Step.aC K)) s.bl);have C:=ae s;have a9:=ae s.h.Ni;have HN:=ae s.n;clear s N K;go_enter Tryz.func22,Tryz.ntmps22;go_wp2_with fail;refine U.o.mono ?_;rintro e w1 ⟨v',rfl,a6,a5,I⟩;obtain⟨b6,i,cb,o,rfl,a3,a4,t,a7,a1⟩:=kV a6 a5;have P:=bu I S.o;have a0:=z.o.trans (I.mono z.o.size);have G:aa (HY w0 p pf nm u q g c ((i,o)::(w.heap.size,(cC what key n a b.length d))::fs) B m m L w1):=ae ((C.o.h.add a0 (gs:=[(i,o),(w.heap.size,(cC what key n a b.length d))]) (λx E=>by
  simp only[List.mem_cons,List.not_mem_nil,or_false]at E;rcases E with rfl|rfl
  ·exact⟨aw z.o.size a4,t⟩
  ·exact⟨aq _,P⟩)))
 clear O;have O:=aj w1 w.heap.size P;have b3:=ae (mq (w0:=w0) (p:=p) (fs:=(i,o)::(w.heap.size,(cC what key n a b.length d))::fs) a7 t af);have a8:=ae a1;have b8:=ae (And.intro a3 (ai t).1);have Y:=ae C.o.ub;have b7:=ae C.o.bd;have b2:=ae (show(rc b).length<=7 from tO b);have T:aa (∀(m':X.M) (W:World),nJ w0 p pf nm u q g c ((i,o)::(w.heap.size,(cC what key n a b.length d))::fs) B m' m' L W->nJ w0 p pf nm u q g c fs B m' m' L W):=ae (λm' W h=>h.cJ (λx E=>ag _ (ag _ E)) a9.o);have b1:=ae t;generalize w.heap.size=bx at*;clear a6 a5 I a3 a4 a7 a1 P a0 C z S U t b6;generalize rc b=r at*;have M:r.length<=1000000:=by have:=b2.o;omega
 have l:=ae (WU G.o Y.o ((f:Int) - 1) _ r b3.o M);have k:=ae (λL' W (h:HY w0 p pf nm (u+1) q g c ((i,o)::(bx,cC what key n a b.length d)::fs) B (m.get ((f:Int) - 1) r).1 m L' W)=>WX h G.o.mok (by have:=Y.o;omega) ((f:Int) - 1) r M);clear M;obtain⟨m',y,F,H⟩:∃m' y F,m.get ((f:Int) - 1) r=(m',y,F):=⟨_,_,_,rfl⟩;rw[H]at l;rw[H]at k;replace l:aa (Calls _ _ _ w1 λe w'=>∃v,e= .returned (.tuple #[v, .string ⟨F.toArray⟩])/\bT w' (· <w1.heap.size) v (y.getD [])/\nJ w0 p pf nm u q g c ((i,o)::(bx,cC what key n a b.length d)::fs) B m' m L w'):=l;replace k:aa (∀L' W,HY w0 p pf nm (u+1) q g c ((i,o)::(bx,cC what key n a b.length d)::fs) B m' m L' W->Calls _ _ _ W λe w'=>e= .returned (.tuple #[.string ⟨(y.getD []).toArray⟩, .string ⟨F.toArray⟩])/\HY w0 p pf nm (u+1) q g c ((i,o)::(bx,cC what key n a b.length d)::fs) B m' m' L' w'/\W.grownBy w' (some q)):=k;generalize y.getD []=xl at l k;go_wp2_with fail;refine l.o.mono ?_;rintro e w2 ⟨v,rfl,Q,L',hL,D⟩;have HL:=ae hL;have HM:=ae (k.o _ _ D);have b0:=ae D.afB;have b4:=bL (c:=cb) (IW a8.o b1.o (D.get af));obtain⟨A,rfl,_⟩:=Q.shape;have V:=ae Q;clear D hL Q l k;clear O G;go_wp2_with fail;refine HM.o.mono ?_;rintro e w3 ⟨rfl,Z,hg⟩;obtain⟨A3,e3,a2⟩:=SK V.o hg b0.o;injection e3 with e3;subst e3;have b4:=bL (c:=xl.length) a2;have H3:=ae (T.o _ _ ⟨L',HL.o,Z⟩);clear Z hg a2 T V;go_wp2;go_ret;exact⟨rfl,by rw[H];exact H3.o⟩
end
section
variable {w0 : World} {p pf q g c u : Nat} {nm : J.B} {fs : List (Nat × Obj)} {B : List Nat} {m : X.M} {L : List (List (J.B × J.B))}
theorem xC:(∀{w0:World} {p pf q g c u:Nat} {nm:J.B} {fs:List (Nat×Obj)} {B:List Nat} {m:X.M} {L:List (List (J.B×J.B))} (what key n:Nat) (a:Option Addr) (d:Nat) (b:J.B) (k:Bool) (w:World) (i:rU w0 p pf nm u q g c fs B m L n a d b w) (s:(what:Int).tmod 12=6),Calls Tryz.prog 22 #[.pointer (some ⟨pf,0,none⟩), .pointer (some ⟨q,0,none⟩), .agg #[.int .u8 what, .int .u8 key, .int .u8 n, .slice a b.length d], .bool k] w (Nn w0 p pf nm u q g c fs B (m.write (rc b)).1 L))/\(∀{w0:World} {p pf q g c u:Nat} {nm:J.B} {fs:List (Nat×Obj)} {B:List Nat} {m:X.M} {L:List (List (J.B×J.B))} (what key n:Nat) (a:Option Addr) (d:Nat) (b:J.B) (k:Bool) (w:World) (i:rU w0 p pf nm u q g c fs B m L n a d b w) (s:(what:Int).tmod 12=7),Calls Tryz.prog 22 #[.pointer (some ⟨pf,0,none⟩), .pointer (some ⟨q,0,none⟩), .agg #[.int .u8 what, .int .u8 key, .int .u8 n, .slice a b.length d], .bool k] w (Nn w0 p pf nm u q g c fs B (m.write (rc b)).1 L))/\(∀{w0:World} {p pf q g c u:Nat} {nm:J.B} {fs:List (Nat×Obj)} {B:List Nat} {m:X.M} {L:List (List (J.B×J.B))} (what key n:Nat) (a:Option Addr) (d:Nat) (b:J.B) (k:Bool) (w:World) (i:rU w0 p pf nm u q g c fs B m L n a d b w) (s:(what:Int).tmod 12=8),Calls Tryz.prog 22 #[.pointer (some ⟨pf,0,none⟩), .pointer (some ⟨q,0,none⟩), .agg #[.int .u8 what, .int .u8 key, .int .u8 n, .slice a b.length d], .bool k] w (Nn w0 p pf nm u q g c fs B (m.write (rc b)).1 L))/\(∀{w0:World} {p pf q g c u:Nat} {nm:J.B} {fs:List (Nat×Obj)} {B:List Nat} {m:X.M} {L:List (List (J.B×J.B))} (what key n:Nat) (a:Option Addr) (d:Nat) (b:J.B) (k:Bool) (w:World) (i:rU w0 p pf nm u q g c fs B m L n a d b w) (s:(what:Int).tmod 12=9),Calls Tryz.prog 22 #[.pointer (some ⟨pf,0,none⟩), .pointer (some ⟨q,0,none⟩), .agg #[.int .u8 what, .int .u8 key, .int .u8 n, .slice a b.length d], .bool k] w (Nn w0 p pf nm u q g c fs B (m.rewrite (rc b)).1 L))/\(∀{w0:World} {p pf q g c u:Nat} {nm:J.B} {fs:List (Nat×Obj)} {B:List Nat} {m:X.M} {L:List (List (J.B×J.B))} (what key n:Nat) (a:Option Addr) (d:Nat) (b:J.B) (k:Bool) (w:World) (i:rU w0 p pf nm u q g c fs B m L n a d b w) (s:(what:Int).tmod 12=10),Calls Tryz.prog 22 #[.pointer (some ⟨pf,0,none⟩), .pointer (some ⟨q,0,none⟩), .agg #[.int .u8 what, .int .u8 key, .int .u8 n, .slice a b.length d], .bool k] w (Nn w0 p pf nm u q g c fs B (m.delete (rc b)).1 L)):=by
 refine⟨?z0, ?z1, ?z2, ?z3, ?z4⟩
 case' z0=>intro w0 p pf q g c u nm fs B m L what key n a d b k w i s
 case' z1=>(intro w0 p pf q g c u nm fs B m L what key n a d b k w i s;have c0:=trivial)
 case' z2=>(intro w0 p pf q g c u nm fs B m L what key n a d b k w i s;have c1:=trivial)
 case' z3=>(intro w0 p pf q g c u nm fs B m L what key n a d b k w i s;have A:=trivial)
 case' z4=>(intro w0 p pf q g c u nm fs B m L what key n a d b k w i s;have C:=trivial)
 all_goals
  have U:=heap_alloc_new w (cC what key n a b.length d);have T:=(ak w.heap.size w).alloc (aq _) (cC what key n a b.length d);have Y:=aj _ w.heap.size U;have a1:=ae U;have H:=ae T;have a4:=ae (kU _ b bE (w.alloc (cC what key n a b.length d)) (i.sl.step (Step.aC T)) i.bl);have M:=ae i;have b3:=ae i.h.Ni;have HN:=ae i.n;clear i U T;go_enter Tryz.func22,Tryz.ntmps22;go_wp2_with fail;refine a4.o.mono ?_;rintro e w1 ⟨v',rfl,b0,a9,S⟩;obtain⟨b7,f,cb,o,rfl,a7,a8,G,b1,a6⟩:=kV b0 a9;have Z:=bu S a1.o;have a5:=H.o.trans (S.mono H.o.size);have I:aa (HY w0 p pf nm u q g c ((f,o)::(w.heap.size,(cC what key n a b.length d))::fs) B m m L w1):=ae ((M.o.h.add a5 (gs:=[(f,o),(w.heap.size,(cC what key n a b.length d))]) (λx N=>by
   simp only[List.mem_cons,List.not_mem_nil,or_false]at N;rcases N with rfl|rfl
   ·exact⟨aw H.o.size a8,G⟩
   ·exact⟨aq _,Z⟩)))
  clear Y;have Y:=aj w1 w.heap.size Z;have P:=ae (mq (w0:=w0) (p:=p) (fs:=(f,o)::(w.heap.size,(cC what key n a b.length d))::fs) b1 G af);have a2:=ae a6;have b9:=ae (And.intro a7 (ai G).1);have z:=ae M.o.ub;have b8:=ae M.o.bd;have b6:=ae (show(rc b).length<=7 from tO b);have a3:aa (∀(m':X.M) (W:World),nJ w0 p pf nm u q g c ((f,o)::(w.heap.size,(cC what key n a b.length d))::fs) B m' m' L W->nJ w0 p pf nm u q g c fs B m' m' L W):=ae (λm' W h=>h.cJ (λx N=>ag _ (ag _ N)) b3.o);have b4:=ae G;generalize w.heap.size=bx at*;clear b0 a9 S a7 a8 b1 a6 Z a5 M H a1 a4 G b7;generalize rc b=r at*;have F:r.length<=1000000:=(by have:=b6.o;omega);first
   |have C:=C
    have y:=ae (λW (h:HY w0 p pf nm u q g c ((f,o)::(bx,cC what key n a b.length d)::fs) B m m L W)=>Nj h z.o _ r P.o F);have t:=ae (λL' W (h:HY w0 p pf nm (u+1) q g c ((f,o)::(bx,cC what key n a b.length d)::fs) B (m.delete r).1 m L' W)=>IV h I.o.mok (by have:=z.o;omega) r F)
    skip
   |have A:=A
    have y:=ae (λW (h:HY w0 p pf nm u q g c ((f,o)::(bx,cC what key n a b.length d)::fs) B m m L W)=>IU h z.o _ r P.o);have t:=ae (λL' W (h:HY w0 p pf nm (u+1) q g c ((f,o)::(bx,cC what key n a b.length d)::fs) B (m.rewrite r).1 m L' W)=>Fb h I.o.mok (by have:=z.o;omega) r F)
    skip
   |have y:=ae (λW (h:HY w0 p pf nm u q g c ((f,o)::(bx,cC what key n a b.length d)::fs) B m m L W)=>SE h z.o _ r P.o)
    have t:=ae (λL' W (h:HY w0 p pf nm (u+1) q g c ((f,o)::(bx,cC what key n a b.length d)::fs) B (m.write r).1 m L' W)=>Nk h I.o.mok (by have:=z.o;omega) r F)
  have b5:=ae (λ(W:World) (h:W.heap[f]? =some o)=>IW a2.o b4.o h);clear F;first
   |have C:=C
    obtain⟨m',l,D⟩:∃m' l,m.delete r=(m',l):=⟨_,_,rfl⟩
    skip
   |have A:=A
    obtain⟨m',l,D⟩:∃m' l,m.rewrite r=(m',l):=⟨_,_,rfl⟩
    skip
   |obtain⟨m',l,D⟩:∃m' l,m.write r=(m',l):=⟨_,_,rfl⟩
  rw[D]at y;rw[D]at t;replace y:aa (∀W,HY w0 p pf nm u q g c ((f,o)::(bx,cC what key n a b.length d)::fs) B m m L W->Calls _ _ _ W λe w'=>e= .returned (.string ⟨l.toArray⟩)/\nJ w0 p pf nm u q g c ((f,o)::(bx,cC what key n a b.length d)::fs) B m' m L w'):=y;replace t:aa (∀L' W,HY w0 p pf nm (u+1) q g c ((f,o)::(bx,cC what key n a b.length d)::fs) B m' m L' W->Calls _ _ _ W λe w'=>e= .returned (.string ⟨l.toArray⟩)/\HY w0 p pf nm (u+1) q g c ((f,o)::(bx,cC what key n a b.length d)::fs) B m' m' L' w'):=t;first
   |have C:=C
    go_upto_region 30 with fail
   |have A:=A
    go_upto_region 28 with fail
   |go_upto_region 26 with fail
  have O:=ae (I.o.below ((ak _ w1).drew));have a0:=ae (a2.o.step (Step.aC ((ak w1.heap.size w1).drew)));refine aJ 6 (.rd 0 (.rd 1 (.rd 3 (.rd 4 (.rd 5 (.wr 2 .fin)))))) (λw'=>By w' bE (some ⟨f,0,none⟩) r.length r) a0.o ?_;clear Y;generalize w1.drew=V at O a0|-;repeat
   refine aA (v:= ?_) (λw' hS=> ?_) (λK E=> ?_);rotate_left
   ·have c2:=bL (c:=cb) hS;clear hS;go_simp;try with_reducible rfl
   go_simp;refine E _ ?_;clear E K
  refine az (λK E=> ?_);go_simp;refine(y.o _ O.o).mono ?_;rintro e w2 ⟨rfl,L',hL,Q⟩;have HL:=ae hL;have HM:=ae (t.o _ _ Q);have b2:=ae (b5.o _ (Q.get af));refine E.out _ _ (λw'=>By w' bE (some ⟨f,0,none⟩) r.length r) (λ_ h=>h) b2.o ?_;clear E K Q hL y t O;show wpList _ _ _ _ _ _;go_wp2_with fail;refine HM.o.mono ?_;rintro e w3 ⟨rfl,h3⟩;have H3:=ae (a3.o _ _ ⟨L',HL.o,h3⟩);clear h3 HM a3;go_wp2;go_ret;exact⟨rfl,by rw[D];exact H3.o⟩
abbrev Nq:= @xC.1
abbrev Nr:= @xC.2.1
abbrev Ns:= @xC.2.2.1
abbrev IY:= @xC.2.2.2.1
abbrev Nt:= @xC.2.2.2.2
theorem SX (what key n:Nat) (a:Option Addr) (d:Nat) (b:J.B) (od:Bool) (w:World) (l:rU w0 p pf nm u q g c fs B m L n a d b w) (hw:(what:Int).tmod 12=11):
  Calls Tryz.prog 22 #[.pointer (some ⟨pf,0,none⟩), .pointer (some ⟨q,0,none⟩), .agg #[.int .u8 what, .int .u8 key, .int .u8 n, .slice a b.length d], .bool od] w (Nn w0 p pf nm u q g c fs B (m.start (((key%5:Nat):Int) - 1) (n%6) ((rc b).take (n/6%4))).1 L):=by
 have r5:(key:Int).tmod 5=((key%5:Nat):Int):=rfl;have c3:key%5<5:=Nat.mod_lt _ (by decide);have r6:(n:Int).tmod 6=((n%6:Nat):Int):=rfl;have c4:n%6<6:=Nat.mod_lt _ (by decide);have q6:(n:Int).tdiv 6=((n/6:Nat):Int):=rfl;have r4:((n/6:Nat):Int).tmod 4=((n/6%4:Nat):Int):=rfl;have c2:n/6%4<4:=Nat.mod_lt _ (by decide);have c6:n/6<256:=by have:=l.n;omega
 generalize n/6%4=M at c2 r4|-;generalize n/6=dq at q6 r4 c6;generalize n%6=y at c4 r6|-;have d7:IntKind.u8.wrap (y:Int)=y:=by rw[IntKind.wrap_u8];omega
 have d6:IntKind.u8.wrap (dq:Int)=dq:=by rw[IntKind.wrap_u8];omega
 generalize key%5=k at c3 r5|-;have d3:wrap64 ((k:Int) - 1)=(k:Int) - 1:=IntWalk.wrap64_in _ (by omega);have d4:IntKind.i64.wrap ((k:Int) - 1)=(k:Int) - 1:=by rw[IntKind.wrap_i64];omega
 have S:=heap_alloc_new w (cC what key n a b.length d);have Q:=(ak w.heap.size w).alloc (aq _) (cC what key n a b.length d);have T:=aj _ w.heap.size S;have a1:=ae S;have C:=ae Q;have a4:=ae (kU _ b bE (w.alloc (cC what key n a b.length d)) (l.sl.step (Step.aC Q)) l.bl);have E:=ae l;have b9:=ae l.h.Ni;have HN:=ae l.n;clear l S Q;go_enter Tryz.func22,Tryz.ntmps22;go_wp2_with fail;refine a4.o.mono ?_;rintro e w1 ⟨v',rfl,b5,b4,P⟩;obtain⟨c7,f,cb,o,rfl,a9,b0,A,b6,a8⟩:=kV b5 b4;have Y:=bu P a1.o;have a7:=C.o.trans (P.mono C.o.size);have HH:aa (HY w0 p pf nm u q g c ((f,o)::(w.heap.size,(cC what key n a b.length d))::fs) B m m L w1):=ae ((E.o.h.add a7 (gs:=[(f,o),(w.heap.size,(cC what key n a b.length d))]) (λx F=>by
  simp only[List.mem_cons,List.not_mem_nil,or_false]at F;rcases F with rfl|rfl
  ·exact⟨aw C.o.size b0,A⟩
  ·exact⟨aq _,Y⟩)))
 clear T;have T:=aj w1 w.heap.size Y;have c1:=ae (mq (w0:=w0) (p:=p) (fs:=(f,o)::(w.heap.size,(cC what key n a b.length d))::fs) b6 A af);have b8:=ae a8;have H:=ae (And.intro a9 (ai A).1);have HU:=ae E.o.ub;have c8:=ae E.o.bd;have c9:=ae (show(rc b).length<=7 from tO b);have a2:aa (∀(m':X.M) (W:World),nJ w0 p pf nm u q g c ((f,o)::(w.heap.size,(cC what key n a b.length d))::fs) B m' m' L W->nJ w0 p pf nm u q g c fs B m' m' L W):=ae (λm' W h=>h.cJ (λx F=>ag _ (ag _ F)) b9.o);have a3:=ae A;generalize w.heap.size=bx at*;clear b5 b4 P a9 b0 b6 a8 Y a7 E C a1 a4 A c7;generalize rc b=r at*;obtain⟨i,d2,U,b2,c5⟩:∃i:Nat,min ((r.length:Nat):Int) (M:Int)=(i:Int)/\r.take M=r.take i/\i<=r.length/\i<=4:=by
  refine⟨min r.length M,by omega, ?_,by omega,by omega⟩;rw[List.take_eq_take_iff];omega
 rw[U];have d1:(i:Int)<=(cb:Nat):=by have:=H.o.1;omega
 have b3:i<=cb:=by omega
 have D:=ae (Wn b8.o b2);have a6:=ae (mq (w0:=w0) (p:=p) (fs:=((f,o)::(bx,cC what key n a b.length d)::fs)) (afC D.o b3 H.o.2) a3.o af);have t:=ae (λW (h:HY w0 p pf nm u q g c ((f,o)::(bx,cC what key n a b.length d)::fs) B m m L W)=>SF h HU.o ((k:Int) - 1) y (by omega) _ (r.take i) a6.o);have s:=ae (λL' W (h:HY w0 p pf nm (u+1) q g c ((f,o)::(bx,cC what key n a b.length d)::fs) B (m.start ((k:Int) - 1) y (r.take i)).1 m L' W)=>Nl h HH.o.mok (by have:=HU.o;omega) ((k:Int) - 1) y (by omega) (r.take i));have a5:=ae (λ(W:World) (h:W.heap[f]? =some o)=>IW D.o a3.o h);clear b3 b2 c5 c1;generalize b1:r.take i=Z at D a6 t s a5|-;have c0:=ae (U.trans b1);clear U b1;obtain⟨m',G,O⟩:∃m' G,m.start ((k:Int) - 1) y Z=(m',G):=⟨_,_,rfl⟩;rw[O]at t;rw[O]at s;replace t:aa (∀W,HY w0 p pf nm u q g c ((f,o)::(bx,cC what key n a b.length d)::fs) B m m L W->Calls _ _ _ W λe w'=>e= .returned (.string ⟨G.toArray⟩)/\nJ w0 p pf nm u q g c ((f,o)::(bx,cC what key n a b.length d)::fs) B m' m L w'):=t;replace s:aa (∀L' W,HY w0 p pf nm (u+1) q g c ((f,o)::(bx,cC what key n a b.length d)::fs) B m' m L' W->Calls _ _ _ W λe w'=>e= .returned (.string ⟨G.toArray⟩)/\HY w0 p pf nm (u+1) q g c ((f,o)::(bx,cC what key n a b.length d)::fs) B m' m' L' w'):=s;have d5:r.length<=cb:=H.o.1;go_upto_region 33 with fail;have I:=ae (HH.o.below ((ak _ w1).drew));have a0:=ae (D.o.step (Step.aC ((ak w1.heap.size w1).drew)));refine aJ 10 (.rd 0 (.rd 1 (.rd 2 (.rd 3 (.rd 5 (.rd 6 (.rd 7 (.rd 8 (.rd 9 (.wr 4 .fin)))))))))) (λw'=>By w' bE (some ⟨f,0,none⟩) i Z) a0.o ?_;clear T;generalize w1.drew=V at I a0|-;repeat
  refine aA (v:= ?_) (λw' hS=> ?_) (λK z=> ?_);rotate_left
  ·have d0:=bL (c:=cb) hS;clear hS;go_simp;try with_reducible rfl
  go_simp;refine z _ ?_;clear z K
 refine az (λK z=> ?_);go_simp;refine(t.o _ I.o).mono ?_;rintro e w2 ⟨rfl,L',hL,N⟩;have HL:=ae hL;have HM:=ae (s.o _ _ N);have b7:=ae (a5.o _ (N.get af));refine z.out _ _ (λw'=>By w' bE (some ⟨f,0,none⟩) i Z) (λ_ h=>h) b7.o ?_;clear z K N hL t s I;show wpList _ _ _ _ _ _;go_wp2_with fail;refine HM.o.mono ?_;rintro e w3 ⟨rfl,h3⟩;have H3:=ae (a2.o _ _ ⟨L',HL.o,h3⟩);clear h3 HM a2;go_wp2;go_ret;exact⟨rfl,by rw[c0.o,O];exact H3.o⟩
end
section
variable {w0 : World} {p pf q g c u : Nat} {nm : J.B} {fs : List (Nat × Obj)} {o : List Nat} {m : X.M} {L : List (List (J.B × J.B))}
theorem abO (a:X.Ac) (i:Bool) (d:Option Addr) (f:Nat) (w:World) (b:rU w0 p pf nm u q g c fs o m L a.n d f a.val w):
  Calls Tryz.prog 22 #[.pointer (some ⟨pf,0,none⟩), .pointer (some ⟨q,0,none⟩), .agg #[.int .u8 a.what, .int .u8 a.key, .int .u8 a.n, .slice d a.val.length f], .bool i] w (Nn w0 p pf nm u q g c fs o (m.does a i) L):=by
 have h:a.what%12<12:=Nat.mod_lt _ (by decide);have e:(a.what:Int).tmod 12=((a.what%12:Nat):Int):=rfl;unfold X.M.does X.Ac.k;generalize a.what%12=c at h e
 match c,h with
 |0,_=>exact SN _ _ _ _ _ _ _ _ b e
 |1,_=>exact SP _ _ _ _ _ _ _ _ b e
 |2,_=>exact SQ _ _ _ _ _ _ _ _ b e
 |3,_=>exact SS _ _ _ _ _ _ _ _ b e
 |4,_=>exact SU _ _ _ _ _ _ _ _ b e
 |5,_=>exact WZ _ _ _ _ _ _ _ _ b e
 |6,_=>exact Nq _ _ _ _ _ _ _ _ b e
 |7,_=>exact Nr _ _ _ _ _ _ _ _ b e
 |8,_=>exact Ns _ _ _ _ _ _ _ _ b e
 |9,_=>exact IY _ _ _ _ _ _ _ _ b e
 |10,_=>exact Nt _ _ _ _ _ _ _ _ b e
 |11,_=>exact SX _ _ _ _ _ _ _ _ b e
end
theorem SZ (s u:Nat) (c:u<=300):X.Bd [102] (kt s) 5 u/\(kt s).length<=3:=by
 have a:(kt s).length<=3/\∀k∈kt s,k.len<=2:=by
  have:s%4=0\/s%4=1\/s%4=2\/s%4=3:=(by omega);unfold kt;rcases this with h|h|h|h<;>rw[h]<;>exact⟨by decide,by decide⟩
 refine⟨⟨2,by decide,λi b=>a.2 _ (X.aY b), ?_⟩,a.1⟩;have d:=Nat.mul_le_mul a.1 c;rw[X.gN];have e:([102]:J.B).length=1:=rfl;rw[e];omega
namespace X
theorem Fe (m:M):m.close.1.ks=m.ks/\m.close.1.size=m.size:=by
 unfold M.close;split<;>exact⟨rfl,rfl⟩
theorem zP (m:M):m.next.1.size=m.size:=by
 unfold M.next;split
 ·rfl
 ·split
  ·rfl
  ·split<;>rfl
theorem Ta (m:M) (k:Int) (b:B):(m.get k b).1.size=m.size:=by
 unfold M.get;split
 ·rfl
 ·split
  ·rfl
  ·split
   ·rfl
   ·split<;>rfl
theorem IZ (m:M) (k:Int) (r:Nat) (b:B):(m.start k r b).1.size=m.size:=by
 unfold M.start;split
 ·rfl
 ·split
  ·rfl
  ·split<;>rfl
theorem Ck (m:M) (b:B):(m.rewrite b).1.size=m.size:=by
 unfold M.rewrite;split
 ·rfl
 ·split
  ·rfl
  ·split
   ·rfl
   ·split
    ·rfl
    ·split
     ·rfl
     ·split<;>rfl
theorem Ff (m:M) (b:B):(m.delete b).1.size=m.size:=by
 unfold M.delete;split
 ·rfl
 ·split
  ·rfl
  ·split
   ·rfl
   ·split<;>rfl
theorem xD (m:M) (a:Ac) (b:Bool):(m.does a b).ks=m.ks/\(m.does a b).size=m.size:=by
 unfold M.does;split
 ·exact qs m _ b
 ·exact qs m _ b
 ·exact Fe m
 ·exact⟨qu m,zP m⟩
 ·exact⟨qu m,zP m⟩
 ·exact⟨zN m _ _,Ta m _ _⟩
 ·exact⟨(eZ m _).1,(eZ m _).2.1⟩
 ·exact⟨(eZ m _).1,(eZ m _).2.1⟩
 ·exact⟨(eZ m _).1,(eZ m _).2.1⟩
 ·exact⟨px m _,Ck m _⟩
 ·exact⟨delete_keeps m _,Ff m _⟩
 ·exact⟨uz m _ _ _,IZ m _ _ _⟩
end X
section
variable {w0 : World} {p pf q g c u : Nat} {nm : J.B} {fs : List (Nat × Obj)} {o : List Nat} {m D E : X.M} {L : List (List (J.B × J.B))} {w w' : World}
theorem abP {ko:Obj} (h:IK w0 p pf nm 0 [(q,gz m g c (.slice none 0 0)),(g,ko)] m [[]] w) (e:KsK ko g m.ks) (f:m.rows=[]) (b:g≠q):HY w0 p pf nm 0 q g c [] [] m m [[]] w:=
 ⟨.slice none 0 0,[],ko,[],h,e,λW M _=> .dV,f.symm,λx a=>by
  simp only[List.nil_append,List.mem_singleton]at a;subst a;exact b,λx _ hd=>(by cases hd),λd hd=>by cases hd⟩
theorem Xa {ks:List X.Ky} {ko:Obj} (h:At w0 p [(q,gz (X.M.new ks 5) g c (.slice none 0 0)),(g,ko)] J.new w) (f:X.eC ks 5) (a:KsK ko g ks) (b:g≠q):
  Calls Tryz.prog 11 #[.pointer (some ⟨p,0,none⟩), .agg #[.string ⟨#[102]⟩, .int .i64 5, .slice (some ⟨g,0,none⟩) ks.length c]] w λe w'=>∃pf,e= .returned (.tuple #[.pointer (some ⟨pf,0,none⟩), .int .i64 0])/\HY w0 p pf [102] 0 q g c [] [] (X.M.new ks 5) (X.M.new ks 5) [[]] w':=by
 have d:=a w (h.get (x:=(g,ko)) (by simp));refine(RI h [102] ((5:Nat):Int) g 0 ks.length c _ _ _ d.z (xu ⟨by decide,by decide,by decide⟩ f)).mono ?_;rintro e w' ⟨pf,rfl,h,_⟩;rw[abu]at h;exact⟨pf,rfl,abP (m:=X.M.new ks 5) h a rfl b⟩
theorem fX.below {A:Option Addr} {L:List X.Ac} (h:fX w bE A L) (a:Below w.heap.size w w'):fX w' bE A L:=h.step (Step.aC a)
end
abbrev YY (s:Nat) (od:Bool) (A:Option Addr) (n c:Nat):Obj:= .cells #[.int .u8 s, .bool od, .slice A n c] 56
end Go.Proofs.YtipljcmmokaokaaGreat
namespace Go.Proofs.YtipljcmmokaokaaGreat
open Go.ChangeShapes Go.WideShapes Go.ChangeAt Go.WideMaps Go.WideElems Go.RowKit Go.Deep
set_option maxRecDepth 100000
section
variable {H : Type} {enc : TypeId × Value -> H} {W : World} {base : Nat} {B : Bool}
theorem Nu {f:Nat} {cs:List Value} {x:DataW H×List MemPlace} (h:DataW.trod enc Tryz.prog W base (λ_=>true) B f 60 cs=some x):
  ∃(a:X.Ac) (v:Value),cs=[.int .u8 a.what, .int .u8 a.key, .int .u8 a.n,v]/\Sl W bE v a.val/\a.what<256/\a.key<256/\a.n<256/\a.val.length<=maxLen:=by
 obtain⟨xs,n,rfl,w,e,p,d⟩:=DataW.trod_struct Tryz.underlying60 h;have g:Tryz.prog.cellsOf 60=4:=by kernel_rfl
 rw[g]at e;obtain⟨b,c1,c2,c3,rfl⟩:∃b c1 c2 c3,cs=[b,c1,c2,c3]:=by
  match cs,e with
  |[b,c1,c2,c3],_=>exact⟨b,c1,c2,c3,rfl⟩
 obtain⟨y0,y1,y2,y3,rfl⟩:∃y0 y1 y2 y3,xs=[y0,y1,y2,y3]:=by
  match xs,p with
  |[y0,y1,y2,y3],_=>exact⟨y0,y1,y2,y3,rfl⟩
 have k0:Tryz.prog.cellsOf 5=1:=by kernel_rfl
 have s:Tryz.prog.cellsOf 40=1:=by kernel_rfl
 have f0:DataW.trod enc Tryz.prog W base (λ_=>true) B n 5 (([b,c1,c2,c3].drop 0).take (Tryz.prog.cellsOf 5))=[y0,y1,y2,y3][0]? :=d 0 _ rfl;have f1:DataW.trod enc Tryz.prog W base (λ_=>true) B n 5 (([b,c1,c2,c3].drop 1).take (Tryz.prog.cellsOf 5))=[y0,y1,y2,y3][1]? :=d 1 _ rfl;have f2:DataW.trod enc Tryz.prog W base (λ_=>true) B n 5 (([b,c1,c2,c3].drop 2).take (Tryz.prog.cellsOf 5))=[y0,y1,y2,y3][2]? :=d 2 _ rfl;have f3:DataW.trod enc Tryz.prog W base (λ_=>true) B n 40 (([b,c1,c2,c3].drop 3).take (Tryz.prog.cellsOf 40))=[y0,y1,y2,y3][3]? :=d 3 _ rfl;rw[k0]at f0 f1 f2;rw[s]at f3;obtain⟨k,e0,rfl,t⟩:=DataW.trod_int Tryz.underlying5 (show DataW.trod enc Tryz.prog W base (λ_=>true) B n 5 [b]=some y0 from f0);obtain⟨q,e1,rfl,u⟩:=DataW.trod_int Tryz.underlying5 (show DataW.trod enc Tryz.prog W base (λ_=>true) B n 5 [c1]=some y1 from f1);obtain⟨r,e3,rfl,wr⟩:=DataW.trod_int Tryz.underlying5 (show DataW.trod enc Tryz.prog W base (λ_=>true) B n 5 [c2]=some y2 from f2);obtain⟨A,m,c,l,e2,i,o,j⟩:=Gl (show DataW.trod enc Tryz.prog W base (λ_=>true) B n 40 [c3]=some y3 from f3);simp only[List.cons.injEq,and_true]at e0 e1 e2 e3;subst e0 e1 e2 e3;have b0:=bounds_u8 t;have b1:=bounds_u8 u;have b2:=bounds_u8 wr;exact⟨⟨k.toNat,q.toNat,r.toNat,l⟩, .slice A m c,by rw[Int.toNat_of_nonneg (by omega),Int.toNat_of_nonneg (by omega),Int.toNat_of_nonneg (by omega)],o,by show k.toNat<256;omega,by show q.toNat<256;omega,by show r.toNat<256;omega,by rw[i];exact j⟩
theorem Nv {w:Nat} {cs:List Value} {x:DataW H×List MemPlace} (F:DataW.trod enc Tryz.prog W base (λ_=>true) B w 54 cs=some x):
  ∃A c L,cs=[.slice A L.length c]/\fX W bE A L/\L.length<=maxLen/\∀a∈L,a.val.length<=maxLen:=by
 have M:Tryz.prog.cellsOf 60=4:=by kernel_rfl
 rcases open_slice Tryz.underlying54 F with⟨e,_⟩|⟨a,len,cap,m,n,D,Pl,e,_,Q,S,v,_,l⟩
 ·exact⟨none,0,[],e,λh=>absurd h (by simp),Nat.zero_le _,λa ha=>by cases ha⟩
 ·simp at v;subst v;have z:∀i,i<len->∃d:X.Ac,(∃u,W.cell? (a.add (i*4))=some (.int .u8 d.what)/\W.cell? ((a.add (i*4)).add 1)=some (.int .u8 d.key)/\W.cell? ((a.add (i*4)).add 2)=some (.int .u8 d.n)/\W.cell? ((a.add (i*4)).add 3)=some u/\Sl W bE u d.val)/\d.what<256/\d.key<256/\d.n<256/\d.val.length<=maxLen:=by
   intro i j;obtain⟨P,h1,y⟩:=l i (by omega);rw[M]at h1;obtain⟨d,u,rfl,K,w1,s,t,O⟩:=Nu y;obtain⟨_,_,g⟩:=World.cells?_some h1;refine⟨d,⟨u, ?_,g 1 (by decide),g 2 (by decide),g 3 (by decide),K⟩,w1,s,t,O⟩;have:=g 0 (by decide)
   simpa [Addr.add] using this
  haveI:Inhabited X.Ac:=⟨⟨0,0,0,[]⟩⟩
  obtain⟨f,k⟩:=choose_lt z;refine⟨some a,m,(List.range len).map f,by simp[e],λI=> ?_,by simp;omega,λx l=> ?_⟩
  ·have h0:0<len:=(by simpa using I);obtain⟨⟨u,E,_⟩,_⟩:=k 0 h0;obtain⟨b,o,e2,C⟩:=yX E;have e3:a=⟨b,o,none⟩:=(by rw[<-e2];simp[Addr.add]);subst e3;refine⟨b,o,rfl,C,λh=>h,λi j=> ?_⟩;have G:i<len:=(by simpa using j);obtain⟨⟨u,q0,p,q,r,N⟩,w1,s,t,_⟩:=k i G;rw[fB]at q0 p q r;rw[fB]at p q r;simp only[List.getElem_map,List.getElem_range];exact⟨q0,p,q,⟨u,r,N⟩,w1,s,t⟩
  ·obtain⟨i,j,rfl⟩:=List.mem_map.1 l;exact(k i (by simpa using j)).2.2.2.2
theorem abQ {r:Reach} {b0:Nat} {v:Value} {d:DataW H} {j:List MemPlace} (q:Value.okWide Tryz.prog W r b0 56 v) (hd:DataW.Trod enc Tryz.prog W base (λ_=>true) B 56 v d j):
  ∃(sz:Nat) (rel:Bool) (A:Option Addr) (c:Nat) (L:List X.Ac),v= .agg #[.int .u8 sz, .bool rel, .slice A L.length c]/\sz<256/\fX W bE A L/\L.length<=maxLen/\∀a∈L,a.val.length<=maxLen:=by
 obtain⟨cs,rfl,_⟩:=okWide_struct Tryz.underlying56 q;obtain⟨l,h⟩:=hd;have h:DataW.trod enc Tryz.prog W base (λ_=>true) B l 56 cs.toList=some (d,j):=h;obtain⟨f,rfl⟩:∃f:List Value,cs=f.toArray:=⟨cs.toList,by simp⟩;obtain⟨xs,n,_,x,i,s,g⟩:=DataW.trod_struct Tryz.underlying56 h;have m:Tryz.prog.cellsOf 56=3:=by kernel_rfl
 rw[m]at i;obtain⟨e,c1,c2,rfl⟩:∃e c1 c2,f=[e,c1,c2]:=by
  match f,i with
  |[e,c1,c2],_=>exact⟨e,c1,c2,rfl⟩
 obtain⟨y0,y1,y2,rfl⟩:∃y0 y1 y2,xs=[y0,y1,y2]:=by
  match xs,s with
  |[y0,y1,y2],_=>exact⟨y0,y1,y2,rfl⟩
 have k0:Tryz.prog.cellsOf 5=1:=by kernel_rfl
 have t:Tryz.prog.cellsOf 4=1:=by kernel_rfl
 have u:Tryz.prog.cellsOf 54=1:=by kernel_rfl
 have f0:DataW.trod enc Tryz.prog W base (λ_=>true) B n 5 (([e,c1,c2].drop 0).take (Tryz.prog.cellsOf 5))=[y0,y1,y2][0]? :=g 0 _ rfl;have f1:DataW.trod enc Tryz.prog W base (λ_=>true) B n 4 (([e,c1,c2].drop 1).take (Tryz.prog.cellsOf 4))=[y0,y1,y2][1]? :=g 1 _ rfl;have f2:DataW.trod enc Tryz.prog W base (λ_=>true) B n 54 (([e,c1,c2].drop 2).take (Tryz.prog.cellsOf 54))=[y0,y1,y2][2]? :=g 2 _ rfl;rw[k0]at f0;rw[t]at f1;rw[u]at f2;obtain⟨b,e1,rfl⟩:=DataW.trod_bool Tryz.underlying4 (show DataW.trod enc Tryz.prog W base (λ_=>true) B n 4 [c1]=some y1 from f1);obtain⟨k,e0,rfl,w⟩:=DataW.trod_int Tryz.underlying5 (show DataW.trod enc Tryz.prog W base (λ_=>true) B n 5 [e]=some y0 from f0);obtain⟨A,c,L,e2,ha,o,p⟩:=Nv (show DataW.trod enc Tryz.prog W base (λ_=>true) B n 54 [c2]=some y2 from f2);simp only[List.cons.injEq,and_true]at e0 e1 e2;subst e0 e1 e2;have b0:=bounds_u8 w;exact⟨k.toNat,b,A,c,L,by rw[Int.toNat_of_nonneg (by omega)],by omega,ha,o,p⟩
end
end Go.Proofs.YtipljcmmokaokaaGreat
namespace Go.Proofs.YtipljcmmokaokaaGreat
open Go.RowKit
set_option maxRecDepth 100000
def PL (pm:Nat->Value->Prop) (sz:Nat) (l:List Value):Prop:=∀(j:Nat) (u:Value),l[j]? =some u->pm (j%sz) u
section
variable {pm : Nat -> Value -> Prop} {sz : Nat} {a b : List Value}
theorem PL.app {n:Nat} (ha:PL pm sz a) (f:a.length=n*sz) (g:PL pm sz b):PL pm sz (a++b):=λj u c=>by
 by_cases d:j<a.length
 ·rw[List.getElem?_append_left d]at c;exact ha j u c
 ·rw[List.getElem?_append_right (by omega)]at c;have h1:=g _ u c;have e:j=(j - a.length)+sz*n:=(by rw[f,Nat.mul_comm];rw[f,Nat.mul_comm]at d;omega);rw[e,Nat.add_mul_mod_self_left];exact h1
theorem PL.take (ha:PL pm sz a) (n:Nat):PL pm sz (a.take n):=λj u b=>by
 rw[List.getElem?_take]at b;split at b
 ·exact ha j u b
 ·cases b
theorem PL.drop (ha:PL pm sz a) (n:Nat):PL pm sz (a.drop (n*sz)):=λj u b=>by
 rw[List.getElem?_drop]at b;have:=ha _ u b;rw[Nat.add_comm,Nat.mul_comm,Nat.add_mul_mod_self_left]at this;exact this
theorem PL.dV:PL pm sz []:=λj u a=>by cases a
theorem PL.one (d:a.length=sz) (h:∀(j:Nat) (u:Value),a[j]? =some u->pm j u):PL pm sz a:=λj u b=>by
 have c:=(List.getElem?_eq_some_iff.1 b).1;rw[Nat.mod_eq_of_lt (by omega)];exact h j u b
theorem Xb (z:Array Value) (d:z.size=sz) (h0:0<sz) (h:∀(j:Nat) (u:Value),z.toList[j]? =some u->pm j u) (k:Nat):PL pm sz (Builtin.zeroCells z k).toList:=λj u b=>by
 unfold Builtin.zeroCells at b;simp only[Array.toList_map,Array.toList_range,List.getElem?_map]at b;obtain⟨x,a,rfl⟩:=Option.map_eq_some_iff.1 b;obtain⟨e,a⟩:=List.getElem?_eq_some_iff.1 a;simp only[List.getElem_range]at a;subst a;have c:j%z.size<z.size:=Nat.mod_lt _ (by omega);rw[getElem!_pos z _ c];have:=h (j%z.size) z[j%z.size] (by rw[Array.getElem?_toList,Array.getElem?_eq_getElem c]);subst d;exact this
end
def kX (pm:Nat->Value->Prop) (sz:Nat) (w:World) (v:Value):Prop:=∀g,v.ownBlock=some g->∃(cur:Array Value) (e:TypeId) (fr:Nat×Nat),w.heap[g]? =some (.cells cur e fr)/\PL pm sz cur.toList
section
variable {pm : Nat -> Value -> Prop} {sz : Nat} {w w' : World} {v : Value}
theorem kX.same (h:kX pm sz w v) (d:∀g,v.ownBlock=some g->w'.heap[g]? =w.heap[g]?):kX pm sz w' v:=λg a=>by
 obtain⟨cur,e,b,h1,c⟩:=h g a;exact⟨cur,e,b,(d g a).trans h1,c⟩
theorem kX.cell (h:kX pm sz w v) {g o:Nat} (c:v.ownBlock=some g) {u:Value} (a:w.cell? ⟨g,o,none⟩=some u):pm (o%sz) u:=by
 obtain⟨cur,e,d,h1,b⟩:=h g c;simp[World.cell?,h1]at a;exact b o u (by rw[Array.getElem?_toList];exact a)
theorem Tb (w:World) (C:Array Value) (n c:Nat) (e:TypeId) (b:PL pm sz C.toList):kX pm sz (w.alloc (.cells C e)) (.slice (some ⟨w.heap.size,0,none⟩) n c):=λg a=>by
 have:w.heap.size=g:=by simpa [Value.ownBlock] using a
 subst this;exact⟨_,e,_,heap_alloc_new w _,b⟩
end
section
variable {P : Program} (w : World)
theorem Cl (pm:Nat->Value->Prop) (base:Nat) (t r e:TypeId) (i:TypeInfo) (z:Value) (sz bytes:Nat) (D:P.underlying t=some (.slice e)) (x:P.info? e=some i) (K:i.zero=some z)
  (q:i.size=sz) (T:i.bytes=bytes) (L:z.cells.size=sz) (a0:0<sz) (a3:∀(j:Nat) (u:Value),z.cells.toList[j]? =some u->pm j u)
  (v:Value) (n:Nat) (xs:List Value) (h:w.ownsRow base e sz v n xs) (Z:kX pm sz w v) (a2:PL pm sz xs)
  (a:Addr) (c:Nat) (b:List Value) (f:b.length=sz) (B:∀(j:Nat) (u:Value),b[j]? =some u->w.cell? (a.add j)=some u) (h1:∀u∈b,u.oneCell'=true) (Y:∀(j:Nat) (u:Value),b[j]? =some u->pm j u)
  (E:n+1<=maxLen) (F:(n+1)*bytes<=140737488355328) (Q:base<=w.heap.size):
  ∃v' w',(Builtin.append_ #[t,t] r #[v, .slice (some a) 1 c]).run P w= .ok v' w'/\w'.ownsRow base e sz v' (n+1) (xs++b)/\w.grownBy w' v.ownBlock/\
   (v'.ownBlock=v.ownBlock\/v'.ownBlock=some w.heap.size)/\kX pm sz w' v':=by
 subst T;have A:b.length=1*i.size:=by rw[q,f,Nat.one_mul]
 have a7:n+1<=9223372036854775807:=by simp only[maxLen]at E;omega
 have p:(xs++b).length=(n+1)*sz:=by rw[List.length_append,h.1,f,Nat.succ_mul]
 have H:PL pm sz b:=PL.one f Y;have N:PL pm sz (xs++b):=a2.app h.1 H;have zc:=λk=>Xb (pm:=pm) z.cells L a0 a3 k;have grown:∀(old:Nat),old<n+1->∀(row:Option Nat),
   (w.drew.alloc (.cells (xs.toArray++b.toArray++Builtin.zeroCells z.cells (grownCap w (n+1) old e - (n+1))) e)).ownsRow base e sz
    (.slice (some ⟨w.heap.size,0,none⟩) (n+1) (grownCap w (n+1) old e)) (n+1) (xs++b)/\
   w.grownBy (w.drew.alloc (.cells (xs.toArray++b.toArray++Builtin.zeroCells z.cells (grownCap w (n+1) old e - (n+1))) e)) row/\
   kX pm sz (w.drew.alloc (.cells (xs.toArray++b.toArray++Builtin.zeroCells z.cells (grownCap w (n+1) old e - (n+1))) e)) (.slice (some ⟨w.heap.size,0,none⟩) (n+1) (grownCap w (n+1) old e)):=by
  intro old ho row;have W:=grownCap_ge w (n+1) old e;have s:grownCap w (n+1) old e<=maxLen:=grownCap_le_maxLen w (n+1) old e E;refine⟨⟨p, .inr ⟨w.heap.size,_,_,rfl,Q,heap_alloc_new w.drew _,W,s, ?_, ?_⟩⟩,⟨rfl,rfl,rfl,by simp,λk y _=>Below.heap_alloc w.drew _ k y⟩,λg l=> ?_⟩
  ·simp only[Array.size_append,List.size_toArray,size_zeroCells,L,h.1,f];have e1:n*sz+sz+(grownCap w (n+1) old e - (n+1))*sz=(n+1+(grownCap w (n+1) old e - (n+1)))*sz:=(by rw[Nat.add_mul,Nat.add_mul,Nat.one_mul]);rw[e1]
   congr 1
   omega
  ·simp only[Array.toList_append,List.append_assoc];rw[<-List.append_assoc,<-p];exact List.take_left
  ·have:w.heap.size=g:=(by simpa [Value.ownBlock] using l);subst this;refine⟨_,e,_,heap_alloc_new w.drew _, ?_⟩;simp only[Array.toList_append];exact N.app p (zc _)
 rcases h.2 with⟨rfl,rfl⟩|⟨g,cap,cur,rfl,S,l,a6,s,U,a1⟩
 ·have hx:xs=[]:=List.eq_nil_of_length_eq_zero (by simpa using h.1);subst hx;have m:=run_append_nil (P:=P) w t r e i z D x K a 1 c b A B (by omega) (by omega) (by have O:=F;simp only[Nat.zero_add]at O;omega);have d:=grown 0 (by omega) (Value.ownBlock (.slice none 0 0));simp only[Nat.zero_add,List.nil_append,Array.empty_append]at d|-;exact⟨_,_,m,d.1,d.2.1,Or.inr rfl,d.2.2⟩
 ·by_cases C:n+1<=cap
  ·have G:n*i.size+b.length<=cur.size:=(by rw[f,q,U,<-Nat.succ_mul];exact Nat.mul_le_mul_right _ C);have m:=run_append_room (P:=P) w t r e i D x g n cap cur l a 1 c b A B h1 C G;rw[q]at m G;refine⟨_,_,m,⟨p, .inr ⟨g,cap,_,rfl,S,setRow_heap w g cur _ e _ l,C,s, ?_, ?_⟩⟩,⟨rfl,rfl,rfl,by simp,λk _ y=>setRow_other w g k _ (λe=>y (by simp[Value.ownBlock,e]))⟩,Or.inl rfl,λg' V=> ?_⟩
   ·simp only[List.size_toArray,List.length_append,List.length_take,List.length_drop,Array.length_toList];omega
   ·rw[a1,<-p];exact List.take_left
   ·have:g=g':=(by simpa [Value.ownBlock] using V);subst this;obtain⟨a4,e',a5,o,M⟩:=Z g rfl;rw[l]at o;injection o with o;injection o with o;subst o;refine⟨_,e,_,setRow_heap w g cur _ e _ l, ?_⟩;show PL pm sz ((cur.toList.take (n*sz)++b)++cur.toList.drop (n*sz+b.length));have I:(cur.toList.take (n*sz)).length=n*sz:=(by rw[List.length_take,Array.length_toList];omega);refine PL.app (n:=n+1) ((M.take _).app I H) (by rw[List.length_append,I,f,Nat.succ_mul]) ?_;rw[f,<-Nat.succ_mul];exact M.drop (n+1)
  ·have holds:∀j u,xs[j]? =some u->w.cell? ((⟨g,0,none⟩:Addr).add j)=some u:=h.cells (g:=g) rfl;have m:=run_append_grow (P:=P) w t r e i z D x K ⟨g,0,none⟩ n cap xs (by rw[q];exact h.1) holds a 1 c b A B (by omega) (by omega) (growslice_fits (by omega) F);have d:=grown cap (by omega) (Value.ownBlock (.slice (some ⟨g,0,none⟩) n cap));exact⟨_,_,m,d.1,d.2.1,Or.inr rfl,d.2.2⟩
theorem mB {ops:Array Oper} {rest:List Oper} {o:Oper} {a:Act} {Q:Exit->Act->World->Prop} (A:o.guard=none) (s x:Operand) (t:TypeId)
  (F:o.op= .call {callee:= .builtin .append,args:=#[s,x],argTypes:=#[t,t]})
  (pm:Nat->Value->Prop) (base:Nat) (e:TypeId) (i:TypeInfo) (z:Value) (sz bytes:Nat) (O:P.underlying t=some (.slice e)) (B:P.info? e=some i) (U:i.zero=some z)
  (M:i.size=sz) (r:i.bytes=bytes) (W:z.cells.size=sz) (N:0<sz) (V:∀(j:Nat) (u:Value),z.cells.toList[j]? =some u->pm j u)
  (v:Value) (n:Nat) (xs:List Value) (L:a.eval s=v) (G:w.ownsRow base e sz v n xs) (H:kX pm sz w v) (T:PL pm sz xs)
  (d:Addr) (c:Nat) (b:List Value) (S:a.eval x= .slice (some d) 1 c) (D:b.length=sz) (C:∀(j:Nat) (u:Value),b[j]? =some u->w.cell? (d.add j)=some u) (h1:∀u∈b,u.oneCell'=true) (E:∀(j:Nat) (u:Value),b[j]? =some u->pm j u)
  (m:n+1<=maxLen) (y:(n+1)*bytes<=140737488355328) (q:base<=w.heap.size)
  (h:∀v' w',w'.ownsRow base e sz v' (n+1) (xs++b)->w.grownBy w' v.ownBlock->(v'.ownBlock=v.ownBlock\/v'.ownBlock=some w.heap.size)->kX pm sz w' v'->wpList P ops Q rest (a.put o.dst v') w'):
  wpList P ops Q (o::rest) a w:=by
 refine wpList_plain A λK p=> ?_;obtain⟨v',w',I,f,g,k,l⟩:=Cl (P:=P) w pm base t o.type e i z sz bytes O B U M r W N V v n xs G H T d c b D C h1 E m y q;unfold Oper.wp execOp;simp only[F,resolve,invoke,builtin,Sem.run_bind,Sem.run_pure,Result.andThen_ok,List.map_toArray,List.map_cons,List.map_nil,L,S,I];exact p _ _ (h v' w' f g k l)
end
end Go.Proofs.YtipljcmmokaokaaGreat
namespace Go.Proofs.YtipljcmmokaokaaGreat
open Go.RowKit Go.Lib Go.Maps Go.WideMaps Go.Sort
set_option maxRecDepth 100000
theorem At.Xc {w0 w w':World} {p:Nat} {s:J.St} {fs:List (Nat×Obj)} {b:Nat} {o o':Obj} (h:At w0 p ((b,o)::fs) s w) (n:∀x∈fs,x.1≠b) (u:J.Two s) (r:uF w b) (c:w.grownBy w' (some b)) (t:w'.heap[b]? =some o') {gs:List (Nat×Obj)} (g:∀x∈gs,w.heap.size<=x.1/\w'.heap[x.1]? =some x.2):At w0 p ((b,o')::(gs++fs)) s w':=by
 obtain⟨M,h1,d,f,j⟩:=h;obtain⟨g1,i,z⟩:=j _ af;refine⟨M,h1.oth u (Ai.bg c (λk e=>by injection e with e;subst e;exact⟨i,r⟩)),λk l=>⟨(d k l).1,av (d k l).2 c.size⟩,f.grown c f.size (λk e=>by injection e with e;subst e;exact g1),λx a=> ?_⟩;rcases au a with rfl|a
 ·exact⟨g1,i,t⟩
 ·rcases List.mem_append.1 a with a|a
  ·exact⟨aw f.size (g x a).1,λq=>by have:=(d _ q).2;have:=(g x a).1;omega,(g x a).2⟩
  ·obtain⟨v,y,m⟩:=j x (ag _ a);exact⟨v,y,(c.block x.1 (ai m).1 (λe=>n x a (by injection e))).trans m⟩
structure Fg (fs:List (Nat×Obj)) (base:Nat) (e:TypeId) (sz:Nat) (v:Value) (n:Nat) (F:List Value) (pm:Nat->Value->Prop):Prop where
 row:∀W:World,(∀x∈fs,W.heap[x.1]? =some x.2)->W.ownsRow base e sz v n F/\kX pm sz W v
 blk:(v.ownBlock=none/\fs=[])\/∃g o,v.ownBlock=some g/\fs=[(g,o)]
section
variable {w0 W D : World} {p pf base n G sz : Nat} {nm : J.B} {u : Nat} {fs B : List (Nat × Obj)} {m : X.M} {L : List (List (J.B × J.B))} {e : TypeId} {v v' : Value} {F E : List Value} {pm : Nat -> Value -> Prop}
theorem Xd (h:W.ownsRow base e sz v n F) (j:kX pm sz W v):∃fs,Fg fs base e sz v n F pm/\∀x∈fs,W.heap[x.1]? =some x.2/\v.ownBlock=some x.1:=by
 cases hv:v.ownBlock with
 |none=>
  refine⟨[],⟨λD _=>⟨kO h (λk e=>by rw[hv]at e;cases e),λg a=>by rw[hv]at a;cases a⟩, .inl ⟨hv,rfl⟩⟩,λx b=>by cases b⟩
 |some g=>
  have i:=(h.lt g hv).2;have c:W.heap[g]? =some W.heap[g]:=Array.getElem?_eq_getElem i;refine⟨[(g,W.heap[g])],⟨λD f=> ?_, .inr ⟨g,_,hv,rfl⟩⟩,λx b=> ?_⟩
  ·have a:=f _ af;have d:∀k,v.ownBlock=some k->D.heap[k]? =W.heap[k]? :=λk e=>by
    rw[hv]at e;injection e with e;subst e;exact a.trans c.symm
   exact⟨kO h d,j.same d⟩
  ·simp only[List.mem_singleton]at b;subst b;exact⟨c,rfl⟩
theorem Nw {g:Nat} (h:W.ownsRow base e sz v n F) (d:kX pm sz W v) (c:v.ownBlock=some g) (k:∀(j:Nat) (x y:UInt8),pm (j%sz) (u8 x)->¬pm ((j+1)%sz) (u8 y)) (f:e≠5):uF W g:=by
 refine⟨λo a b hh=>k o a b (d.cell c hh.1) (d.cell c hh.2),λ⟨_,cur,m,hh⟩=> ?_⟩;rcases h.2 with⟨rfl,_⟩|⟨g',cap,l,rfl,_,i,_⟩
 ·cases c
 ·have:g'=g:=(by simpa [Value.ownBlock] using c);subst this;rw[i]at hh;injection hh with hh;injection hh with _ hh;exact f hh
theorem IK.row (h:IK w0 p pf nm u fs m L W) {x:Nat×Obj} (a:x∈fs):W.heap[x.1]? =some x.2:=h.get a
theorem IK.grow (h:IK w0 p pf nm u (B++fs) m L W) (P:Fg B base e sz v n F pm) (a1:∀(j:Nat) (x y:UInt8),pm (j%sz) (u8 x)->¬pm ((j+1)%sz) (u8 y)) (Y:e≠5) (hd:∀x∈B,∀y∈fs,y.1≠x.1)
  (d:W.grownBy D v.ownBlock) (O:v'.ownBlock=v.ownBlock\/v'.ownBlock=some W.heap.size) (a2:D.ownsRow base e sz v' G E) (hp:kX pm sz D v'):
  ∃c,IK w0 p pf nm u (c++fs) m L D/\Fg c base e sz v' G E pm/\(∀x∈c,∀y∈fs,y.1≠x.1)/\∀x∈c,(∃y∈B,y.1=x.1)\/W.heap.size<=x.1:=by
 obtain⟨c,Q,l⟩:=Xd a2 hp;have H:∀y∈fs,y.1<W.heap.size:=λy t=>(ai (h.get (List.mem_append_right _ t))).1;obtain⟨s,f,r,A,C,b⟩:=h;have S:=(ai (b.at_.get af)).1;have S:pf<W.heap.size:=S;have M:=(ai (b.at_.get (ag _ af))).1;have M:r<W.heap.size:=M;rcases P.blk with⟨i,rfl⟩|⟨g,o,i,rfl⟩
 ·rw[i]at d;have V:Below W.heap.size W D:=⟨d.os,d.tape,d.output,d.size,λk hk=>d.block k hk (λe=>by cases e)⟩;have w:∀x∈c,W.heap.size<=x.1:=λx a=>by
   rcases O with e|e
   ·rw[i,(l x a).2]at e;cases e
   ·rw[(l x a).2]at e;injection e with e;omega
  refine⟨c,⟨s,f,r,A,C,(b.at_.add V (gs:=c) (λx a=>⟨w x a,(l x a).1⟩)).less (λx a=> ?_),b.kp,b.fm,b.ko,b.cap,λx a=> ?_,λx a=> ?_,b.nm_⟩,Q,λx a y t=>by have:=w x a;have:=H y t;omega,λx a=> .inr (w x a)⟩
  ·simp only[List.mem_cons,List.mem_append,List.nil_append]at a|-;rcases a with h|h|h|h
   ·exact .inr (.inl h)
   ·exact .inr (.inr (.inl h))
   ·exact .inl h
   ·exact .inr (.inr (.inr h))
  ·rcases au a with rfl|a
   ·exact b.ne _ af
   ·rcases List.mem_append.1 a with a|a
    ·have:=w x a;omega
    ·exact b.ne x (ag _ (List.mem_append_right _ a))
  ·rcases List.mem_append.1 a with a|a
   ·have:=w x a;omega
   ·exact b.neg x (List.mem_append_right _ a)
 ·rw[i]at d;obtain⟨r1,r2⟩:=P.row W (λx a=>b.at_.get (ag _ (ag _ (List.mem_append_left _ a))));have Z:=(r1.lt g i).2;have a0:=Nw r1 r2 i a1 Y;have T:At w0 p ((g,o)::(pf,ax p nm m.size r m.ks.length A f)::(r,C)::fs) s W:=b.at_.less (λx a=>by
   simp only[List.mem_cons,List.mem_append,List.not_mem_nil,or_false]at a|-;rcases a with h|h|h|h
   ·exact .inr (.inr (.inl h))
   ·exact .inl h
   ·exact .inr (.inl h)
   ·exact .inr (.inr (.inr h)))
  have N:g≠pf:=b.ne (g,o) (ag _ (List.mem_append_left _ af));have I:g≠r:=b.neg (g,o) (List.mem_append_left _ af);have K:g<D.heap.size:=av Z d.size;have z:∀x∈c,x.1=g\/W.heap.size<=x.1:=λx a=>by
   rcases O with e|e
   ·rw[i,(l x a).2]at e;injection e with e;exact .inl e
   ·rw[(l x a).2]at e;injection e with e;exact .inr (by omega)
  have U:=T.Xc (o':=D.heap[g]) (gs:=c.filter (λx=>decide (W.heap.size<=x.1))) (λx a=>by
   rcases au a with rfl|a
   ·exact N.symm
   ·rcases au a with rfl|a
    ·exact I.symm
    ·exact hd _ af x a) b.kp.sto.two a0 d (Array.getElem?_eq_getElem K) (λx a=>by
    obtain⟨q1,q2⟩:=List.mem_filter.1 a;exact⟨by simpa using q2,(l x q1).1⟩)
  refine⟨c,⟨s,f,r,A,C,U.less (λx a=> ?_),b.kp,b.fm,b.ko,b.cap,λx a=> ?_,λx a=> ?_,b.nm_⟩,Q,λx a y t=> ?_,λx a=> ?_⟩
  ·simp only[List.mem_cons,List.mem_append]at a|-;rcases a with h|h|h|h
   ·exact .inr (.inr (.inl h))
   ·exact .inr (.inr (.inr (.inl h)))
   ·rcases z x h with e|e
    ·left;have q:=(l x h).1;rw[e,Array.getElem?_eq_getElem K]at q;injection q with q;exact Prod.ext e q.symm
    ·exact .inr (.inl (List.mem_filter.2 ⟨h,by simpa using e⟩))
   ·exact .inr (.inr (.inr (.inr h)))
  ·rcases au a with rfl|a
   ·exact b.ne _ af
   ·rcases List.mem_append.1 a with a|a
    ·rcases z x a with e|e
     ·rw[e];exact N
     ·omega
    ·exact b.ne x (ag _ (List.mem_append_right _ a))
  ·rcases List.mem_append.1 a with a|a
   ·rcases z x a with e|e
    ·rw[e];exact I
    ·omega
   ·exact b.neg x (List.mem_append_right _ a)
  ·rcases z x a with e|e
   ·rw[e];exact hd _ af y t
   ·have:=H y t;omega
  ·rcases z x a with e|e
   ·exact .inl ⟨_,af,e.symm⟩
   ·exact .inr e
theorem fK.grow {q g c:Nat} {d2:List Nat} {mf mm:X.M} {i:Value} {l:List HP} (h:fK w0 p pf nm u q g c (B++fs) (B.map (·.1)++d2) mf mm L i l W) (Q:Fg B base e sz v n F pm) (T:∀(j:Nat) (x y:UInt8),pm (j%sz) (u8 x)->¬pm ((j+1)%sz) (u8 y)) (N:e≠5) (hd:∀x∈B,∀y∈fs,y.1≠x.1) (K:∀d∈d2,∃y∈fs,y.1=d)
  (O:W.grownBy D v.ownBlock) (P:v'.ownBlock=v.ownBlock\/v'.ownBlock=some W.heap.size) (U:D.ownsRow base e sz v' G E) (S:kX pm sz D v'):
  ∃k,fK w0 p pf nm u q g c (k++fs) (k.map (·.1)++d2) mf mm L i l D/\Fg k base e sz v' G E pm/\∀x∈k,∀y∈fs,y.1≠x.1:=by
 obtain⟨ko,rb,h1,A,C,H,m,r,Z⟩:=h;have a0:∀x∈(q,gz mm g c i)::(g,ko)::(rb++fs),x.1<W.heap.size:=λx a=>(ai (h1.get (x:=x) (by
  simp only[List.mem_cons,List.mem_append]at a|-;rcases a with h|h|h|h
  ·exact .inl h
  ·exact .inr (.inl h)
  ·exact .inr (.inr (.inl h))
  ·exact .inr (.inr (.inr (.inr h)))))).1
 have I:∀x∈B,∀y∈(q,gz mm g c i)::(g,ko)::(rb++fs),y.1≠x.1:=λx a y b=>by
  have s:x.1∈B.map (·.1)++d2:=List.mem_append_left _ (List.mem_map.2 ⟨x,a,rfl⟩);rcases au b with rfl|b
  ·exact(m x (ag _ (List.mem_append_right _ (List.mem_append_left _ a)))).symm
  ·rcases au b with rfl|b
   ·exactλe=>r _ af (by rw[show(g,ko).1=g from rfl]at e|-;rw[e];exact s)
   ·rcases List.mem_append.1 b with b|b
    ·exactλe=>r y (ag _ b) (by rw[e];exact s)
    ·exact hd x a y b
 have z:IK w0 p pf nm u (B++((q,gz mm g c i)::(g,ko)::(rb++fs))) mf L W:=h1.cJ (λx a=>by
  simp only[List.mem_append,List.mem_cons]at a|-;rcases a with h|h|h|h|h
  ·exact .inr (.inr (.inr (.inl h)))
  ·exact .inl h
  ·exact .inr (.inl h)
  ·exact .inr (.inr (.inl h))
  ·exact .inr (.inr (.inr (.inr h))))
 obtain⟨w,a1,t,o,Y⟩:=z.grow Q T N I O P U S;refine⟨w,⟨ko,rb,a1.cJ (λx a=> ?_),A,C,H,λx a=> ?_,λx a f=> ?_,λd M=> ?_⟩,t,λx a y b=>o x a y (ag _ (ag _ (List.mem_append_right _ b)))⟩
 ·simp only[List.mem_append,List.mem_cons]at a|-;rcases a with h|h|h|h|h
  ·exact .inr (.inl h)
  ·exact .inr (.inr (.inl h))
  ·exact .inr (.inr (.inr (.inl h)))
  ·exact .inl h
  ·exact .inr (.inr (.inr (.inr h)))
 ·simp only[List.mem_append,List.mem_cons]at a;rcases a with h|h|h|h
  ·exact m x (by rw[h];exact af)
  ·exact m x (ag _ (List.mem_append_left _ h))
  ·exact(o x h _ af).symm
  ·exact m x (ag _ (List.mem_append_right _ (List.mem_append_right _ h)))
 ·have V:x∈(q,gz mm g c i)::(g,ko)::(rb++fs):=by
   rcases au a with h|h
   ·rw[h];exact ag _ af
   ·exact ag _ (ag _ (List.mem_append_left _ h))
  rcases List.mem_append.1 f with f|f
  ·obtain⟨y,b,e⟩:=List.mem_map.1 f;exact o y b x V e.symm
  ·exact r x a (List.mem_append_right _ f)
 ·rcases List.mem_append.1 M with f|f
  ·obtain⟨y,b,e⟩:=List.mem_map.1 f;exact⟨y,List.mem_append_left _ b,e⟩
  ·obtain⟨y,b,e⟩:=K d f;exact⟨y,List.mem_append_right _ b,e⟩
theorem fK.lay {q g c:Nat} {d2:List Nat} {mf mm:X.M} {i:Value} {l:List HP} (h:fK w0 p pf nm u q g c fs d2 mf mm L i l W) (C:Array Value) (e:TypeId):fK w0 p pf nm u q g c ((W.heap.size, .cells C e)::fs) (W.heap.size::d2) mf mm L i l (W.alloc (.cells C e)):=by
 have s:Below W.heap.size W (W.alloc (.cells C e)):=(ak _ W).alloc (aq _) _;obtain⟨ko,rb,h1,k,m,n,f,o,r⟩:=h;have j:∀x∈(q,gz mm g c i)::(g,ko)::(rb++fs),x.1<W.heap.size:=λx a=>(ai (h1.get a)).1;refine⟨ko,rb,(h1.add s (gs:=[(W.heap.size, .cells C e)]) (λx a=>by
  simp only[List.mem_singleton]at a;subst a;exact⟨aq _,heap_alloc_new W _⟩)).cJ (λx a=> ?_),k,m,n,λx a=> ?_,λx a b=> ?_,λd t=> ?_⟩
 ·simp only[List.mem_append,List.mem_cons,List.not_mem_nil,or_false]at a|-;rcases a with h|h|h|h|h
  ·exact .inr (.inl h)
  ·exact .inr (.inr (.inl h))
  ·exact .inr (.inr (.inr (.inl h)))
  ·exact .inl h
  ·exact .inr (.inr (.inr (.inr h)))
 ·simp only[List.mem_append,List.mem_cons]at a;have w:q<W.heap.size:=j _ af;rcases a with h|h|h|h
  ·exact f x (by rw[h];exact af)
  ·exact f x (ag _ (List.mem_append_left _ h))
  ·rw[h];show W.heap.size≠q;omega
  ·exact f x (ag _ (List.mem_append_right _ h))
 ·have z:x.1<W.heap.size:=j x (by
   rcases au a with h|h
   ·rw[h];exact ag _ af
   ·exact ag _ (ag _ (List.mem_append_left _ h)))
  rcases au b with b|b
  ·omega
  ·exact o x a b
 ·rcases au t with b|b
  ·exact⟨_,af,b.symm⟩
  ·obtain⟨y,v,e⟩:=r d b;exact⟨y,ag _ v,e⟩
end
namespace X
theorem rW:∀(n k:Nat),k<n->J.dp (List.range n) k=k
 |0,k,h=>absurd h (by omega)
 |n+1,k,h=>by
  rw[List.range_succ,J.eV,List.length_range];by_cases e:n<=k
  ·rw[if_pos e];omega
  ·rw[if_neg e];exact rW n k (by omega)
theorem xE:∀(l:List J.Wr) (m:J.cS),(∀w∈l,w.kind=0)->(J.aW m l).h0=m.h0/\(J.aW m l).h1=m.h1
 |[],m,_=>⟨rfl,rfl⟩
 |w::t,m,h=>by
  have c:=h w af;obtain⟨a,b⟩:=xE t (J.done m w w.bs.length) (λx d=>h x (ag _ d));have e:(J.done m w w.bs.length).h0=m.h0/\(J.done m w w.bs.length).h1=m.h1:=by
   unfold J.done J.cS.bC;rw[if_pos c];split<;>exact⟨rfl,rfl⟩
  exact⟨a.trans e.1,b.trans e.2⟩
theorem Nx {u:Nat} {now:List (B×B)} {s:J.St} (h:mL u now s) (k t:Nat):(J.dA s k t).h0.length<=90000000/\(J.dA s k t).h1.length<=90000000:=by
 have a:=xE (s.writes.take k) s.base (λw c=>(h.wr w (List.mem_of_mem_take c)).1);rw[h.base]at a;unfold J.dA;split
 ·rw[h.base,a.1,a.2];exact⟨by decide,by decide⟩
 ·rename_i wr hwr
  split
  ·rw[h.base,a.1,a.2];exact⟨by decide,by decide⟩
  ·have b:=(h.wr wr (List.mem_of_getElem? hwr)).1;have e:∀m:J.cS,(J.done m wr t).h0=m.h0/\(J.done m wr t).h1=m.h1:=λm=>by
    unfold J.done J.cS.bC;rw[if_pos b];split<;>exact⟨rfl,rfl⟩
   rw[(e _).1,(e _).2,h.base,a.1,a.2];exact⟨by decide,by decide⟩
theorem Td {u:Nat} {now:List (B×B)} {s:J.St} (h:mL u now s) (k t:Nat) (a:t<20):J.uU s k t=k:=by
 unfold J.uU;split
 ·rfl
 ·rename_i wr hwr
  have:=(h.wr wr (List.mem_of_getElem? hwr)).2.2;rw[if_neg (by omega)]
theorem Kp.cut {nm:B} {u:Nat} {m:M} {L:List (List (B×B))} {s:J.St} (h:Kp nm u m L s) {k t:Nat} (d:k<=s.writes.length) (g:t<20) (f:t=0\/k<s.writes.length):
  (t=0\/∃wr,s.writes[k]? =some wr/\t<=wr.bs.length)/\∃now c,L[k]? =some now/\J.cS.Holds True (J.dA s k t) c now:=by
 have a:t=0\/∃wr,s.writes[k]? =some wr/\t<=wr.bs.length:=by
  rcases f with e|e
  ·exact .inl e
  ·have:=(h.sto.wr _ (List.getElem_mem e)).2.2;exact .inr ⟨_,List.getElem?_eq_getElem e,by omega⟩
 obtain⟨now,h1,b⟩:=h.hist.holds k t d a;rw[Td h.sto k t g,rW _ _ (by rw[h.len];omega)]at h1;exact⟨a,now,_,h1,b⟩
theorem xF:∀(n:Nat) (l:List Nat) (k:Nat),l.length=n->0<n->(∀h:0<l.length,l[0]=0)->(∀i (h:i+1<l.length),l[i+1]<=l[i]+1)->(∀h:l.length - 1<l.length,k<=l[l.length - 1])->l[J.dp l k]? =some k
 |0,_,_,_,h,_,_,_=>absurd h (by omega)
 |n+1,l,k,hl,_,h0,h1,h2=>by
  obtain⟨a,x,rfl⟩:∃a x,l=a++[x]:=⟨l.dropLast,l.getLast (by intro e;subst e;cases hl),(List.dropLast_concat_getLast _).symm⟩;have b:a.length=n:=(by simpa using hl);have d:k<=x:=(by have:=h2 (by simp);simpa using this);rw[J.eV];by_cases c:x<=k
  ·rw[if_pos c,List.getElem?_append_right (Nat.le_refl _)];have:x=k:=(by omega);simp[this]
  ·rw[if_neg c];cases n with
   |zero=>
    obtain rfl:=List.eq_nil_of_length_eq_zero b;have:=h0 (by simp);simp at this;omega
   |succ n=>
    have f:=J.sF (n+1) a k b (by omega);rw[List.getElem?_append_left (by omega)];refine xF (n+1) a k b (by omega) (λh=>by have:=h0 (by simp);rwa [List.getElem_append_left h]at this) (λi h=> ?_) (λh=> ?_)
    ·have:=h1 i (by simp;omega)
     rwa [List.getElem_append_left h,List.getElem_append_left (by omega)]at this
    ·have:=h1 (a.length - 1) (by simp;omega);rw[List.getElem_append_left h]at this;have e:(a++[x])[a.length - 1+1]'(by simp;omega)=x:=by
      have:a.length - 1+1=a.length:=(by omega);simp[this]
     rw[e]at this;omega
end X
def fY (f fs:List (Nat×Obj)):Prop:=∀x∈f,∀y∈fs,y.1≠x.1
theorem fY.symm {f g:List (Nat×Obj)} (h:fY f g):fY g f:=λx a y b=>(h y b x a).symm
theorem fY.sub {f g g':List (Nat×Obj)} (h:fY f g) (a:∀x∈g',x∈g):fY f g':=λx b y c=>h x b y (a y c)
theorem fY.app {f g g':List (Nat×Obj)} (h:fY f g) (c:fY f g'):fY f (g++g'):=λx b y a=>by
 rcases List.mem_append.1 a with a|a
 ·exact h x b y a
 ·exact c x b y a
def yg (g c:Nat) (m:X.M) (v:Value):List Value:=[.string ⟨#[102]⟩, .int .i64 (m.size:Nat), .slice (some ⟨g,0,none⟩) m.ks.length c, .bool m.there,v, .int .i64 (m.time:Nat), .int .u8 (m.mode:Nat), .bool m.ord, .int .i64 (m.key:Nat), .bool m.lost, .string ⟨m.value.toArray⟩, .int .i64 (m.at_:Nat), .bool m.same, .string ⟨m.last.toArray⟩, .bool m.read, .string ⟨m.written.toArray⟩]
theorem iq (g c:Nat) (m:X.M) (v:Value):(yg g c m v).length=16:=rfl
abbrev Xe:=X.M×Nat×Value
def mr (g c:Nat) (S:List Xe):List Value:=S.flatMap λx=>yg g c x.1 x.2.2
theorem Te (g c:Nat) (S:List Xe) (x:Xe):mr g c (S++[x])=mr g c S++yg g c x.1 x.2.2:=by unfold mr;simp
theorem Fh (g c:Nat):∀(S:List Xe) (i:Nat) (h:i<S.length) (j:Nat),j<16->(mr g c S)[i*16+j]? =(yg g c S[i].1 S[i].2.2)[j]?
 |[],i,h,_,_=>absurd h (by simp)
 |a::t,0,h,j,hj=>by
  have e:mr g c (a::t)=yg g c a.1 a.2.2++mr g c t:=(by unfold mr;rw[List.flatMap_cons]);rw[e,List.getElem?_append_left (by rw[iq];omega),Nat.zero_mul,Nat.zero_add];rfl
 |a::t,i+1,h,j,hj=>by
  have e:mr g c (a::t)=yg g c a.1 a.2.2++mr g c t:=(by unfold mr;rw[List.flatMap_cons]);rw[e,List.getElem?_append_right (by rw[iq];omega),iq,show(i+1)*16+j - 16=i*16+j by omega,Fh g c t i (by simpa using h) j hj];rfl
def TP (j:Nat) (u:Value):Prop:=j≠6->∀x:UInt8,u≠u8 x
def TQ (_:Nat) (u:Value):Prop:=∃n,u= .int .i64 n
theorem abR (j:Nat) (x y:UInt8) (h:TP (j%16) (u8 x)):¬TP ((j+1)%16) (u8 y):=λb=>by
 have h1:j%16=6:=Classical.byContradiction λa=>h a x rfl;have c:(j+1)%16=6:=Classical.byContradiction λa=>b a y rfl;omega
theorem abS (j:Nat) (x y:UInt8) (h:TQ (j%1) (u8 x)):¬TQ ((j+1)%1) (u8 y):=by
 obtain⟨n,e⟩:=h;cases e
theorem Ja (g c:Nat) (m:X.M) (v:Value) (f:gj v):∀(j:Nat) (u:Value),(yg g c m v)[j]? =some u->TP j u:=λj u a b x e=>by
 obtain⟨A,n,c',rfl⟩:=f;subst e;have d:=(List.getElem?_eq_some_iff.1 a).1;rw[iq]at d;have:j=0\/j=1\/j=2\/j=3\/j=4\/j=5\/j=6\/j=7\/j=8\/j=9\/j=10\/j=11\/j=12\/j=13\/j=14\/j=15:=by omega
 unfold yg at a;rcases this with rfl|rfl|rfl|rfl|rfl|rfl|rfl|rfl|rfl|rfl|rfl|rfl|rfl|rfl|rfl|rfl<;>first|exact b rfl|(simp[u8]at a)
theorem abT (g c:Nat) (m:X.M) (v:Value) (b:gj v):∀u∈yg g c m v,u.oneCell'=true:=λu a=>by
 obtain⟨A,n,c',rfl⟩:=b;unfold yg at a;simp only[List.mem_cons,List.not_mem_nil,or_false]at a;rcases a with rfl|rfl|rfl|rfl|rfl|rfl|rfl|rfl|rfl|rfl|rfl|rfl|rfl|rfl|rfl|rfl<;>rfl
theorem abU (g c:Nat) (S:List Xe) (b:∀x∈S,gj x.2.2):PL TP 16 (mr g c S):=by
 induction S with
 |nil=>exact PL.dV
 |cons a t f=>
  have e:mr g c (a::t)=yg g c a.1 a.2.2++mr g c t:=(by unfold mr;rw[List.flatMap_cons]);rw[e];exact(PL.one (iq _ _ _ _) (Ja g c a.1 a.2.2 (b a af))).app (n:=1) (by rw[iq]) (f (λx d=>b x (ag _ d)))
abbrev Xf (x:Xe):Value:= .int .i64 (x.2.1:Nat)
theorem abV (S:List Xe):PL TQ 1 (S.map Xf):=λj u a=>by
 rw[List.getElem?_map]at a;obtain⟨x,_,rfl⟩:=Option.map_eq_some_iff.1 a;exact⟨_,rfl⟩
theorem Fi {base:Nat} {W:World} (C:Array Value) (sz:Nat) (t:TypeId) (pm:Nat->Value->Prop) (d:base<=W.heap.size) (b:C.size=sz) (h0:0<sz) (g:PL pm sz C.toList):Fg [(W.heap.size, .cells C t)] base t sz (.slice (some ⟨W.heap.size,0,none⟩) 1 1) 1 C.toList pm:=by
 have h0:(W.alloc (.cells C t)).ownsRow base t sz (.slice (some ⟨W.heap.size,0,none⟩) 1 1) 1 C.toList:=
  World.ownsRow_lit (base:=base) (e:=t) (size:=sz) W C 1 d (by unfold maxLen;omega) (by rw[b,Nat.one_mul])
 have h1:=Tb (pm:=pm) (sz:=sz) W C 1 1 t g;refine⟨λW' c=> ?_, .inr ⟨W.heap.size,_,rfl,rfl⟩⟩;have f:=c _ af;have a:∀k,(Value.slice (some ⟨W.heap.size,0,none⟩) 1 1).ownBlock=some k->W'.heap[k]? =(W.alloc (.cells C t)).heap[k]? :=λk e=>by
  have:W.heap.size=k:=(by simpa [Value.ownBlock] using e);subst this;exact f.trans (heap_alloc_new W _).symm
 exact⟨kO h0 a,h1.same a⟩
structure Ny (k:Nat) (S:List Xe) (L:List (List (J.B×J.B))) (B:List (Nat×Obj)) (ks:List X.Ky):Prop where
 len:S.length=k+1
 each:∀i (h:i<S.length),X.fg 340 S[i].1/\S[i].1.ks=ks/\gj S[i].2.2/\(∃now,L[S[i].2.1]? =some now/\(S[i].1.there=false->now=[])/\(S[i].1.there=true->XF [102] S[i].1.size S[i].1.ks S[i].1.rows S[i].1.time now))/\∃rbi l,(∀x∈rbi,x∈B)/\TL rbi S[i].2.2 l/\l.map (·.1)=S[i].1.rows
 zero:∀h:0<(S.map (·.2.1)).length,(S.map (·.2.1))[0]=0
 step:∀i (h:i+1<(S.map (·.2.1)).length),(S.map (·.2.1))[i+1]<=(S.map (·.2.1))[i]+1
 last:∀h:k<(S.map (·.2.1)).length,(S.map (·.2.1))[k]+1=L.length
section
variable {k : Nat} {S : List Xe} {m m' : X.M} {L o : List (List (J.B × J.B))} {B D G : List (Nat × Obj)} {v v' : Value} {ks : List X.Ky}
theorem Xg (h:One L o) {i:Nat} {x:List (J.B×J.B)} (a:L[i]? =some x):o[i]? =some x:=by
 rcases h with rfl|⟨c,rfl⟩
 ·exact a
 ·rw[List.getElem?_append_left (List.getElem?_eq_some_iff.1 a).1];exact a
theorem Xh (h:One L o):L.length<=o.length/\o.length<=L.length+1:=by
 rcases h with rfl|⟨c,rfl⟩
 ·exact⟨aq _,Nat.le_succ _⟩
 ·rw[List.length_append,List.length_singleton];exact⟨Nat.le_succ _,aq _⟩
theorem Ny.next (h:Ny k S L G ks) (j:One L o) (n:X.fg 340 m') (m:m'.ks=ks) (r:gj v') (p:∃now,o[o.length - 1]? =some now/\(m'.there=false->now=[])/\(m'.there=true->XF [102] m'.size m'.ks m'.rows m'.time now)) (q:∃l,TL D v' l/\l.map (·.1)=m'.rows):Ny (k+1) (S++[(m',o.length - 1,v')]) o (D++G) ks:=by
 have w:=h.len;have t:=Xh j;have v:=h.last (by rw[List.length_map];omega);refine⟨by rw[List.length_append,List.length_singleton];omega,λi d=> ?_,λh0=> ?_,λi d=> ?_,λd=> ?_⟩
 ·by_cases f:i<S.length
  ·rw[List.getElem_append_left f];obtain⟨a,b,c,⟨now,d1,d2⟩,s,l,e1,e2⟩:=h.each i f;exact⟨a,b,c,⟨now,Xg j d1,d2⟩,s,l,λx g=>List.mem_append_right _ (e1 x g),e2⟩
  ·have e:i=S.length:=(by rw[List.length_append,List.length_singleton]at d;omega);subst e;rw[List.getElem_append_right (Nat.le_refl _)];simp only[Nat.sub_self,List.getElem_singleton];obtain⟨l,e1,e2⟩:=q;exact⟨n,m,r,p,D,l,λx g=>List.mem_append_left _ g,e1,e2⟩
 ·have:=h.zero (by rw[List.length_map];omega);simp only[List.map_append]at h0|-;rw[List.getElem_append_left (by rw[List.length_map];omega)];exact this
 ·have u:i+1<S.length+1:=(by simpa using d);simp only[List.map_append,List.map_cons,List.map_nil];by_cases f:i+1<S.length
  ·rw[List.getElem_append_left (by rw[List.length_map];omega),List.getElem_append_left (by rw[List.length_map];omega)];exact h.step i (by rw[List.length_map];omega)
  ·have e:i=k:=(by omega);subst e;rw[List.getElem_append_right (by rw[List.length_map];omega),List.getElem_append_left (by rw[List.length_map];omega)];simp only[List.getElem_singleton];omega
 ·simp only[List.map_append,List.map_cons,List.map_nil]at d|-;rw[List.getElem_append_right (by rw[List.length_map];omega)];simp only[List.getElem_singleton];omega
theorem Ny.hit (h:Ny k S L B ks) {c:Nat} (f:c<L.length):∃i,∃b:i<S.length,J.dp (S.map (·.2.1)) c=i/\S[i].2.1=c:=by
 have g:=h.len;have hh:=X.xF (S.map (·.2.1)).length (S.map (·.2.1)) c rfl (by rw[List.length_map];omega) h.zero h.step (λj=>by
  have:=h.last (by rw[List.length_map];omega);have e:(S.map (·.2.1)).length - 1=k:=(by rw[List.length_map];omega);simp only[e];omega)
 obtain⟨b,a⟩:=List.getElem?_eq_some_iff.1 hh;have d:J.dp (S.map (·.2.1)) c<S.length:=by simpa using b
 rw[List.getElem_map]at a;exact⟨_,d,rfl,a⟩
end
end Go.Proofs.YtipljcmmokaokaaGreat
