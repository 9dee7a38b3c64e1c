import Derived.Test.YtipljcmmokaokaaGreatQ05
set_option linter.unusedVariables false
set_option linter.unusedSimpArgs false
set_option maxHeartbeats 40000000
namespace Go.Proofs.YtipljcmmokaokaaGreat
open Go.RowKit Go.Lib Go.Maps Go.WideMaps
set_option maxRecDepth 100000
theorem Gr (p:Nat) (M:Nat->Prop) (s:J.St) (w:World) (h:br w p M s):
  Calls Tryz.prog 30 #[.pointer (some ⟨p,0,none⟩)] w λe w'=>e= .returned (.int .i64 (s.writes.length:Nat))/\w=w':=by
 have H:=ae h;obtain⟨bn,bw,ch,wr,b0,b1,b2,b3,d0,d1,d2,d3,h1,d,b,f⟩:=h;obtain⟨vs,_,a,_⟩:=b.wrs;obtain⟨A,c,rfl⟩:∃A c,wr= .slice A s.writes.length c:=by
  rcases a.2 with⟨rfl,h0⟩|⟨g',cap,cur,rfl,_⟩
  ·exact⟨none,0,by rw[h0]⟩
  ·exact⟨_,_,rfl⟩
 have g:=aj w p h1;clear h1 d b f a;go_enter Tryz.func30,Tryz.ntmps30;go_wp2_with fail;refine(gq p M s _ H.o).mono ?_;rintro e w1 ⟨rfl,rfl⟩;go_wp2;go_ret;exact⟨rfl,rfl⟩
abbrev Gs (h0 h1 a0 a1:Value):Value:= .agg #[h0,h1,a0,a1]
def yq (w:World) (M:Nat->Prop) (v:Value) (m:J.cS):Prop:=∃h0 h1 a0 a1,v=Gs h0 h1 a0 a1/\bT w M h0 m.h0/\bT w M h1 m.h1/\bT w M a0 m.a0/\bT w M a1 m.a1
theorem yq.step {w w':World} {M M':Nat->Prop} {v:Value} {m:J.cS} (h:yq w M v m) (a:Step M M' w w'):yq w' M' v m:=by
 obtain⟨h0,h1,a0,a1,rfl,q0,b,c,d⟩:=h;exact⟨h0,h1,a0,a1,rfl,q0.step a,b.step a,c.step a,d.step a⟩
theorem dO {a b c:World} {n:Nat} (e:n<=a.heap.size) (h:Below n a b) (k:Below b.heap.size b c):Below n a c:=
 ⟨k.os.trans h.os,k.tape.trans h.tape,k.output.trans h.output,aw h.size k.size,λi d=>(k.block i (av d (aw e h.size))).trans (h.block i d)⟩
def en (w0:World) (I R:Array Value) (w:World):Prop:=w.heap[w0.heap.size]? =some (.cells I 80 (0,0))/\w.heap[w0.heap.size+1]? =some (.cells R 80 (0,0))/\Below w0.heap.size w0 w
theorem Gt (w:World) (I R:Array Value):en w I R ((w.alloc (.cells I 80)).alloc (.cells R 80)):=by
 refine⟨?_, ?_,((ak _ w).alloc (aq _) _).alloc (by simp) _⟩
 ·rw[Below.heap_alloc _ _ _ (by simp)];exact heap_alloc_new _ _
 ·have:=heap_alloc_new (w.alloc (.cells I 80)) (.cells R 80)
  simpa using this
section
variable {w0 w w' : World} {I R : Array Value}
theorem en.lt (h:en w0 I R w):w0.heap.size+1+1<=w.heap.size:=(ai h.2.1).1
theorem en.drew (h:en w0 I R w):en w0 I R w.drew:=⟨h.1,h.2.1,h.2.2.drew⟩
theorem en.below (h:en w0 I R w) (a:Below w.heap.size w w'):en w0 I R w':=by
 have:=h.lt;exact⟨(a.block _ (by omega)).trans h.1,(a.block _ (by omega)).trans h.2.1,dO (aq _) h.2.2 a⟩
theorem Ju {M:Nat->Prop} {v:Value} {l:List UInt8} (h:en w0 I R w) (a:Sl w0 M v l):Sl w M v l:=a.step (Step.aC h.2.2)
end
theorem gY (o p q r:Option Addr) (x n1 n2 y t c1 c2 c3:Nat) (m:J.cS) (M:Nat->Prop) (w:World) (h0:Sl w M (.slice o x t) m.h0) (h1:Sl w M (.slice p n1 c1) m.h1) (O:Sl w M (.slice q n2 c2) m.a0) (P:Sl w M (.slice r y c3) m.a1)
  (z0:m.h0.length<=90000000) (z1:m.h1.length<=90000000) (z2:m.a0.length<=90000000) (z3:m.a1.length<=90000000):
  Calls Tryz.prog 80 #[Gs (.slice o x t) (.slice p n1 c1) (.slice q n2 c2) (.slice r y c3)] w λe w'=>∃v,e= .returned v/\yq w' (· <w.heap.size) v m/\Below w.heap.size w w':=by
 have T:=ae h0;have U:=ae h1;have V:=ae O;have H3:=ae P;clear h0 h1 O P;go_enter Tryz.func80,Tryz.ntmps80;go_upto_region 1 with fail;have hst:=Gt w #[.slice o x t, .slice p n1 c1, .slice q n2 c2, .slice r y c3] #[.slice none 0 0, .slice none 0 0, .slice none 0 0, .slice none 0 0];generalize(w.alloc (.cells #[.slice o x t, .slice p n1 c1, .slice q n2 c2, .slice r y c3] 80)).alloc (.cells #[.slice none 0 0, .slice none 0 0, .slice none 0 0, .slice none 0 0] 80)=W at hst|-;have E:=ae hst;clear hst;refine bh 19 [(0,false),(1,false),(2,false),(4,false),(5,false),(6,false),(9,false),(10,false),(11,false),(13,false),(14,false),(15,false),(3,true),(7,true),(8,false),(12,true),(16,true),(17,false),(18,false)] (en w #[.slice o x t, .slice p n1 c1, .slice q n2 c2, .slice r y c3] #[.slice none 0 0, .slice none 0 0, .slice none 0 0, .slice none 0 0]) (by kernel_rfl) (by kernel_rfl) (λc a d v w h=>by cases d<;>exact h) E.o.drew ?_;repeat
  refine bS (v:= ?_) (by rfl) (by rfl) (λw' u=> ?_) (λK b=> ?_);rotate_left
  ·have a0:=aj w' w.heap.size u.1;clear u;go_simp;try with_reducible rfl
  go_simp;refine b _ ?_;clear b K
 refine bG (by rfl) (λK b=> ?_);go_simp;refine(fC (.slice o x t) m.h0 W.drew M (Ju E.o.drew T.o) z0).mono ?_;rintro e w0 ⟨v0,rfl,g,f⟩;have B:=ae (en.below E.o.drew f);have i:bT w0 (· <w.heap.size+1+1) v0 m.h0:=g.weak (λj n=>av n (en.lt E.o.drew));have l:=ae i;obtain⟨H,rfl⟩:=i.aU;clear g f i;refine b.out _ _ B.o ?_;clear b K;refine bG (by rfl) (λK b=> ?_);go_simp;refine(fC (.slice p n1 c1) m.h1 w0 M (Ju B.o U.o) z1).mono ?_;rintro e w1 ⟨v1,rfl,g,f⟩;have C:=ae (en.below B.o f);have i:bT w1 (· <w.heap.size+1+1) v1 m.h1:=g.weak (λj n=>av n (en.lt B.o));have z:=ae i;have l:=ae (l.o.step (Step.aC f));obtain⟨I,rfl⟩:=i.aU;clear g f i;refine b.out _ _ C.o ?_;clear b K;repeat
  refine bS (v:= ?_) (by rfl) (by rfl) (λw' u=> ?_) (λK b=> ?_);rotate_left
  ·clear u;go_simp;try with_reducible rfl
  go_simp;refine b _ ?_;clear b K
 refine bG (by rfl) (λK b=> ?_);go_simp;refine(fC (.slice q n2 c2) m.a0 w1 M (Ju C.o V.o) z2).mono ?_;rintro e S ⟨v2,rfl,g,f⟩;have D:=ae (en.below C.o f);have i:bT S (· <w.heap.size+1+1) v2 m.a0:=g.weak (λj n=>av n (en.lt C.o));have G:=ae i;have l:=ae (l.o.step (Step.aC f));have z:=ae (z.o.step (Step.aC f));obtain⟨L,rfl⟩:=i.aU;clear g f i;refine b.out _ _ D.o ?_;clear b K;refine bG (by rfl) (λK b=> ?_);go_simp;refine(fC (.slice r y c3) m.a1 S M (Ju D.o H3.o) z3).mono ?_;rintro e A ⟨v3,rfl,g,f⟩;have s:=ae (en.below D.o f);have i:bT A (· <w.heap.size+1+1) v3 m.a1:=g.weak (λj n=>av n (en.lt D.o));have Y:=ae i;have l:=ae (l.o.step (Step.aC f));have z:=ae (z.o.step (Step.aC f));have G:=ae (G.o.step (Step.aC f));obtain⟨N,rfl⟩:=i.aU;clear g f i;refine b.out _ _ s.o ?_;clear b K;repeat
  refine bS (v:= ?_) (by rfl) (by rfl) (λw' u=> ?_) (λK b=> ?_);rotate_left
  ·clear u;go_simp;try with_reducible rfl
  go_simp;refine b _ ?_;clear b K
 show wpList _ _ _ _ _ _;have a1:=λj=>ah A (w.heap.size+1) j _ _ _ s.o.2.1;have a2:∀j,A.frozen? ⟨w.heap.size+1,j,none⟩=false:=λj=>by simp[World.frozen?,s.o.2.1]
 go_wp2_with fail;have Z:=aB (aB (aB (aB s.o.2.1 0 (.slice H m.h0.length m.h0.length)) 1 (.slice I m.h1.length m.h1.length)) 2 (.slice L m.a0.length m.a0.length)) 3 (.slice N m.a1.length m.a1.length);refine bodyPost_ret (results_cell_row rfl _ _ (w.heap.size+1) _ _ _ _ rfl Z Tryz.underlying80 rfl (by kernel_rfl)) rfl ?_;have Q:=ay (ay (ay (ay (World.grownBy.refl A (some (w.heap.size+1))) 0 (.slice H m.h0.length m.h0.length)) 1 (.slice I m.h1.length m.h1.length)) 2 (.slice L m.a0.length m.a0.length)) 3 (.slice N m.a1.length m.a1.length);have g:Step (· <w.heap.size+1+1) (· <w.heap.size+1+1) A _:=Step.bg Q (λk e _=>by cases e;show _<_;omega);have F:∀k,k<w.heap.size->k<w.heap.size+1+1:=λk hk=>by omega
 refine⟨_,rfl,⟨_,_,_,_,rfl,(l.o.step g).weak F,(z.o.step g).weak F,(G.o.step g).weak F,(Y.o.step g).weak F⟩, ?_⟩;exact s.o.2.2.grown Q s.o.2.2.size (λk e=>by cases e;omega)
end Go.Proofs.YtipljcmmokaokaaGreat
namespace Go.Proofs.YtipljcmmokaokaaGreat
open Go.RowKit Go.Lib Go.Maps Go.WideMaps Go.Sort Go.Shelf
set_option maxRecDepth 100000
theorem bT.old {w:World} {M:Nat->Prop} {v:Value} {l:List UInt8} (h:bT w M v l):bT w (w.heap.size<= ·) v l:=by
 rcases h with h|⟨b,o,e,h1,a,d,c⟩
 ·exact .inl h
 ·exact .inr ⟨b,o,e,h1,a,by have:=a.1;show¬_<=_;omega,c.old⟩
theorem dT.chs {w:World} {M:Nat->Prop} {base:Nat} {v:Value} {L:List J.cd} (h:dT w M base v L):∃A n c,v= .slice A n c/\Chs w bE A n L/\n=L.length:=by
 obtain⟨vs,h1,f,l⟩:=h;rcases f.2 with⟨rfl,h0⟩|⟨g,cap,cur,rfl,q,m,r,s,u,y⟩
 ·exact⟨none,0,0,rfl,⟨h0,λh=>absurd h (by omega)⟩,h0.symm⟩
 ·refine⟨_,_,cap,rfl,⟨rfl,λ_=>⟨g,rfl,(ai m).1,λi a=> ?_⟩⟩,rfl⟩;have b:i<vs.length:=(by omega);have d:∀j,j<3->w.cell? ⟨g,i*3+j,none⟩=(dc L vs)[i*3+j]? :=λj z=>f.cellAt (i*3+j) (by omega);have o:∀(L:List J.cd) (vs:List Value) (i:Nat) (a:i<L.length) (b:i<vs.length),(dc L vs)[i*3]? =some (.string ⟨L[i].key.toArray⟩)/\(dc L vs)[i*3+1]? =some vs[i]/\(dc L vs)[i*3+2]? =some (.bool L[i].gone):=by
   intro L
   induction L with
   |nil=>intro vs i a;simp at a
   |cons c t p=>
    intro vs i a b;cases vs with
    |nil=>simp at b
    |cons x vs=>
     have e:dc (c::t) (x::vs)= .string ⟨c.key.toArray⟩::x:: .bool c.gone::dc t vs:=rfl;cases i with
     |zero=>rw[e];exact⟨rfl,rfl,rfl⟩
     |succ k=>
      have:=p vs k (by simp at a;omega) (by simp at b;omega);rw[e,show(k+1)*3=k*3+3 by omega]
      simpa using this
  obtain⟨e0,e1,e2⟩:=o L vs i a b;refine⟨vs[i],(d 0 (by omega)).trans e0,(d 1 (by omega)).trans e1,(d 2 (by omega)).trans e2, ?_⟩;exact(l i a b).sl.weak (λk h=>h.elim)
end Go.Proofs.YtipljcmmokaokaaGreat
namespace Go.Proofs.YtipljcmmokaokaaGreat
open Go.RowKit Go.Lib Go.Maps Go.WideMaps
set_option maxRecDepth 100000
theorem Pm {L:List J.cd} {vs:List Value}:∀{i:Nat} (a:i<L.length) (b:i<vs.length),(dc L vs)[i*3]? =some (.string ⟨L[i].key.toArray⟩)/\(dc L vs)[i*3+1]? =some vs[i]/\(dc L vs)[i*3+2]? =some (.bool L[i].gone):=by
 induction L generalizing vs with
 |nil=>intro i a;simp at a
 |cons c t d=>
  intro i a b;cases vs with
  |nil=>simp at b
  |cons x vs=>
   have e:dc (c::t) (x::vs)= .string ⟨c.key.toArray⟩::x:: .bool c.gone::dc t vs:=rfl;cases i with
   |zero=>rw[e];exact⟨rfl,rfl,rfl⟩
   |succ k=>
    have:=d (vs:=vs) (i:=k) (by simp at a;omega) (by simp at b;omega);rw[e,show(k+1)*3=k*3+3 by omega]
    simpa using this
theorem dT.read {w:World} {M:Nat->Prop} {base:Nat} {v:Value} {L:List J.cd} (h:dT w M base v L) {k:Nat} (e:k<L.length):∃g c x,v= .slice (some ⟨g,0,none⟩) L.length c/\base<=g/\g<w.heap.size/\w.cell? ⟨g,k*3,none⟩=some (.string ⟨L[k].key.toArray⟩)/\w.cell? ⟨g,k*3+1,none⟩=some x/\w.cell? ⟨g,k*3+2,none⟩=some (.bool L[k].gone)/\bT w M x L[k].val:=by
 obtain⟨vs,h1,b,f⟩:=h;rcases b.2 with⟨rfl,h0⟩|⟨g,cap,cur,rfl,l,i,m,n,o,p⟩
 ·omega
 ·have a:∀j,j<3->w.cell? ⟨g,k*3+j,none⟩=(dc L vs)[k*3+j]? :=λj d=>b.cellAt (k*3+j) (by omega);obtain⟨e0,e1,e2⟩:=Pm e (show k<vs.length by omega);exact⟨g,cap,vs[k]'(by omega),rfl,l,(ai i).1,(a 0 (by omega)).trans e0,(a 1 (by omega)).trans e1,(a 2 (by omega)).trans e2,(f k e (by omega)).weak (λj d=> .inl d)⟩
theorem Jw {a b:World} {p bn:Nat} {bw:Option Nat} {M:Nat->Prop} {s:J.St} {ch wr b0 b1 b2 b3 d0 d1 d2 d3:Value} {m:List (J.B×J.B)} (h:cA a M s bn bw ch wr b0 b1 b2 b3 d0 d1 d2 d3) (d:a.heap[p]? =some (.cells (bK s bn bw ch wr b0 b1 b2 b3 d0 d1 d2 d3) 99 (0,0))) (f:M p)
  (c:a.grownBy b (some bn)) (j:dx b M bn m):bM b p M {s with now:=m}/\Step M M a b:=by
 have i:p<a.heap.size:=(ai d).1;have g:p≠bn:=λe=>h.ne d f (.inl e);exact⟨⟨bn,bw,ch,wr,b0,b1,b2,b3,d0,d1,d2,d3,(c.block p i (λe=>g (by injection e))).trans d,f,h.map c j⟩,Step.bg c (λk e _=>by cases e;exact h.mbn)⟩
theorem Jy {m a:List (J.B×J.B)} {L:List J.cd} {k:Nat} (b:k<L.length) (h:J.bA m (L.take k)=some a):J.bA m (L.take (k+1))=if L[k].gone then(if J.look a L[k].key=none then none else some (J.del a L[k].key))else some (J.ins a L[k].key L[k].val):=by
 rw[List.take_succ_eq_append_getElem b,J.fM,h];show J.bA a [L[k]]=_;rw[J.eJ];rfl
theorem Au:∀(L:List J.cd) (m a:List (J.B×J.B)),J.bA m L=some a->a.length<=m.length+L.length
 |[],m,a,h=>by injection h with h;subst h;simp
 |c::t,m,a,h=>by
  rw[J.eJ]at h;have hd:=J.qF m c.key;have b:=J.lj m c.key c.val;split at h
  ·split at h
   ·cases h
   ·have:=Au t _ a h;simp;omega
  ·have:=Au t _ a h;simp;omega
theorem Jz {m:List (J.B×J.B)} {L:List J.cd} {k:Nat} (h:J.bA m (L.take k)=none):J.bA m L=none:=by
 conv=>lhs;rw[<-List.take_append_drop k L]
 rw[J.fM,h];rfl
theorem Gu {gen commits:Nat} {now:List (J.B×J.B)} {l:List UInt8} {first:Bool} (h:l.length<9):J.take gen commits now l first= .stop:=by
 unfold J.take;rw[if_pos (.inl h)]
theorem Gv {gen commits:Nat} {now:List (J.B×J.B)} {l:List UInt8} {first:Bool} (h:(l.length:Int) - 13<(J.dH ((l.take 9).drop 5):Nat)):J.take gen commits now l first= .stop:=by
 unfold J.take;rw[if_pos];omega
theorem Gw (p:Nat) (A:Option Addr) (n c:Nat) (l:List UInt8) (first:Bool) (w:World) (a:Nat->Prop) (h:By w a A n l) (b:n<9):
  Calls Tryz.prog 82 #[.pointer (some ⟨p,0,none⟩), .slice A n c, .bool first] w λe w'=>e= .returned (.tuple #[.int .i64 0, .int .i64 0])/\w=w':=by
 have h1:(n:Int)<9:=by omega
 clear h;go_enter Tryz.func82,Tryz.ntmps82;go_wp2_with fail;go_ret2;exact⟨rfl,rfl⟩
theorem Lj (p:Nat) (A:Option Addr) (n c:Nat) (l:List UInt8) (first:Bool) (w:World) (f:Nat->Prop) (h:By w f A n l) (q:n<=c) (i:9<=n) (s:n<=90000000) (j:(n:Int) - 13<(J.dH ((l.take 9).drop 5):Nat)):
  Calls Tryz.prog 82 #[.pointer (some ⟨p,0,none⟩), .slice A n c, .bool first] w λe w'=>e= .returned (.tuple #[.int .i64 0, .int .i64 0])/\w=w':=by
 have g:l.length=n:=h.1;have a:J.dH ((l.take 9).drop 5)<4294967296:=by
  have:=J.mN ((l.take 9).drop 5);have e:((l.take 9).drop 5).length=4:=(by rw[List.length_drop,List.length_take,g];omega);rw[e]at this;exact this
 obtain⟨b,o,rfl,_⟩:=h.2 (by omega);have d:=ae (lG (some ⟨b,o+5,none⟩) 4 (c - 5) _ w f (h.slice 5 9 (by omega) i) (by omega));generalize J.dH ((l.take 9).drop 5)=v at a j d;have k:=ae a;have h1:¬(n:Int)<9:=by omega
 have m:(9:Int)<=(c:Int):=by omega
 have t:IntKind.i64.wrap ((v:Nat):Int)=(v:Int):=IntWalk.i64_in _ (by omega);clear h a g;go_enter Tryz.func82,Tryz.ntmps82;go_wp2_with fail;refine d.o.mono ?_;rintro e w1 ⟨rfl,rfl⟩;have r:(n:Int) - 9 - 4<(v:Int):=by omega
 go_wp2_with fail;go_ret2;exact⟨rfl,rfl⟩
theorem nT {key:List UInt8} (h:key.length<=300):(⟨key.toArray⟩:ByteArray).size<=maxLen:=by
 have e:(⟨key.toArray⟩:ByteArray).size=key.length:=by show key.toArray.size=_;simp
 rw[e];unfold maxLen;omega
theorem Ay {a b:World} {n:Nat} (h:Below n a.drew b):Below n a b:=⟨h.os,h.tape,h.output,h.size,h.block⟩
def fR (w:World) (p:Nat) (M:Nat->Prop) (s:J.St) (l:List UInt8) (first:Bool) (e:Ending) (w':World):Prop:=
 match J.take s.gen s.commits s.now l first with
 | .stop=>False
 | .bad er=>e= .returned (.tuple #[.int .i64 0, .int .i64 er])/\∃M',Step M M' w w'
 | .took n c now=>e= .returned (.tuple #[.int .i64 (n:Nat), .int .i64 0])/\∃M',bM w' p M' {s with commits:=c,now:=now}/\Step M M' w w'
theorem Gx {gen commits:Nat} {now:List (J.B×J.B)} {l:List UInt8} {first:Bool} {v:Nat} (a:J.dH ((l.take 9).drop 5)=v) (b:v+13<=l.length) (h:J.bP (l.take (9+v))≠J.dH ((l.drop (9+v)).take 4)):J.take gen commits now l first= .bad 16:=by
 unfold J.take;rw[a,if_neg (by omega)];dsimp only;rw[if_pos h]
section
variable {gen commits : Nat} {now : List (J.B × J.B)} {l : List UInt8} {first : Bool} {v : Nat}
theorem Gy (b:J.dH ((l.take 9).drop 5)=v) (c:v+13<=l.length) (h:J.bP (l.take (9+v))=J.dH ((l.drop (9+v)).take 4)) (a:J.aX ((l.take (9+v)).drop 9)=none):J.take gen commits now l first= .bad 4:=by
 unfold J.take;rw[b,if_neg (by omega)];dsimp only;rw[if_neg (not_not_intro h),a]
theorem Gz {L:List J.cd} (c:J.dH ((l.take 9).drop 5)=v) (d:v+13<=l.length) (h:J.bP (l.take (9+v))=J.dH ((l.drop (9+v)).take 4)) (a:J.aX ((l.take (9+v)).drop 9)=some L)
  (b:¬(if first=true/\0<gen then l.headD 0=1 else l.headD 0=0/\J.dH ((l.take 5).drop 1)=commits+1)):J.take gen commits now l first= .bad 4:=by
 unfold J.take;rw[c,if_neg (by omega)];dsimp only;rw[if_neg (not_not_intro h),a];dsimp only;rw[if_pos b]
theorem GA {L:List J.cd} (c:J.dH ((l.take 9).drop 5)=v) (d:v+13<=l.length) (h:J.bP (l.take (9+v))=J.dH ((l.drop (9+v)).take 4)) (a:J.aX ((l.take (9+v)).drop 9)=some L)
  (b:if first=true/\0<gen then l.headD 0=1 else l.headD 0=0/\J.dH ((l.take 5).drop 1)=commits+1) (ha:J.bA now L=none):J.take gen commits now l first= .bad 4:=by
 unfold J.take;rw[c,if_neg (by omega)];dsimp only;rw[if_neg (not_not_intro h),a];dsimp only;rw[if_neg (not_not_intro b),ha]
theorem Lk {L:List J.cd} {now':List (J.B×J.B)} (c:J.dH ((l.take 9).drop 5)=v) (d:v+13<=l.length) (h:J.bP (l.take (9+v))=J.dH ((l.drop (9+v)).take 4)) (a:J.aX ((l.take (9+v)).drop 9)=some L)
  (b:if first=true/\0<gen then l.headD 0=1 else l.headD 0=0/\J.dH ((l.take 5).drop 1)=commits+1) (ha:J.bA now L=some now'):J.take gen commits now l first= .took (9+v+4) (J.dH ((l.take 5).drop 1)) now':=by
 unfold J.take;rw[c,if_neg (by omega)];dsimp only;rw[if_neg (not_not_intro h),a];dsimp only;rw[if_neg (not_not_intro b),ha]
end
theorem GC (l:List UInt8) (k:Nat):(l.take (k+4)).drop k=(l.drop k).take 4:=by rw[List.drop_take];congr 1;omega
theorem Pn (p:Nat) (M:Nat->Prop) (s:J.St) (A:Option Addr) (n c:Nat) (l:List UInt8) (first:Bool) (w:World) (M0:Nat->Prop) (hst:bM w p M s) (h:By w M0 A n l) (hc:n<=c) (hn:13<=n) (c5:n<=90000000) (v:Nat) (hv:J.dH ((l.take 9).drop 5)=v) (hs:v+13<=n) (f2:s.commits<=5000000000) (g2:∀L,J.aX ((l.take (9+v)).drop 9)=some L->s.now.length+L.length<=90000000):
  Calls Tryz.prog 82 #[.pointer (some ⟨p,0,none⟩), .slice A n c, .bool first] w (fR w p M s l first):=by
 obtain⟨N,hN⟩:∃N,N=9+v:=⟨_,rfl⟩;obtain⟨O,f1⟩:∃O,O=N+4:=⟨_,rfl⟩;have hl:l.length=n:=h.1;obtain⟨b,o,rfl,g4,_,g6⟩:=h.2 (by omega);have h5:=ae g4;have h8:=ae g6;clear g4 g6;have HG:=ae (hv▸lG (some ⟨b,o+5,none⟩) 4 (c - 5) _ w M0 (h.slice 5 9 (by omega) (by omega)) (by omega));have h7:=ae (yO (some ⟨b,o,none⟩) N c _ w.drew M0 ((h.take (k:=N) (by omega)).drew) (by omega));have f7:=ae (lG (some ⟨b,o+N,none⟩) (O - N) (c - N) _ w.drew M0 (h.slice N O (by omega) (by omega)).drew (by omega));have g8:(l.take O).drop N=(l.drop N).take 4:=by rw[f1];exact GC l N
 rw[g8]at f7;have HV:=ae hv;have HL:=ae hl;have e8:=ae hst;have h1:¬(n:Int)<9:=by omega
 have h2:(9:Int)<=(c:Int):=by omega
 have k4:IntKind.i64.wrap ((v:Nat):Int)=(v:Int):=IntWalk.i64_in _ (by omega);have k2:decide ((n:Int) - 9 - 4<(v:Int))=false:=by simp;omega
 have a4:¬((n:Int) - 9 - 4<(v:Int)):=by omega
 have k6:(9:Int)+(v:Int)=(N:Int):=by omega
 have k5:(N:Int)+4=(O:Int):=by omega
 have j5:(N:Int)<=(c:Int):=by omega
 have j7:(O:Int)<=(c:Int):=by omega
 have j8:(N:Int)<=(O:Int):=by omega
 have f8:=ae (lG (some ⟨b,o+1,none⟩) 4 (c - 1) _ w.drew M0 ((h.slice 1 5 (by omega) (by omega)).drew) (by omega));have h6:=ae (yj (some ⟨b,o+9,none⟩) (N - 9) (c - 9) _ w.drew M0 ((h.slice 9 N (by omega) (by omega)).drew) (by omega) (by omega));obtain⟨nm,c5⟩:∃nm,nm=J.dH ((l.take 5).drop 1):=⟨_,rfl⟩;rw[<-c5]at f8;have g9:nm<4294967296:=by
  rw[c5];have:=J.mN ((l.take 5).drop 1);have e:((l.take 5).drop 1).length=4:=(by rw[List.length_drop,List.length_take,hl];omega);rw[e]at this;exact this
 have k8:IntKind.i64.wrap (nm:Int)=(nm:Int):=IntWalk.i64_in _ (by omega);have i8:=ae g9;have d9:=ae c5;clear g9 c5;have j0:(9:Int)<=(N:Int):=by omega
 have j1:9<=N:=by omega
 have j9:¬c=9:=by omega
 have j6:¬c=1:=by omega
 have j3:N<=90000000:=by omega
 have k7:IntKind.i64.wrap (O:Int)=(O:Int):=IntWalk.i64_in _ (by omega);have j2:N<=O:=by omega
 have k0:¬c=N:=by omega
 have k1:IntKind.u64.wrap ((J.bP (l.take N):Nat):Int)=((J.bP (l.take N):Nat):Int):=by have:=J.zQ (l.take N);rw[IntKind.wrap_u64];omega
 have T:=ae hN;have f9:=ae f1;clear hN f1 g8;clear h hv hl hst;go_enter Tryz.func82,Tryz.ntmps82;go_wp2_with fail;refine HG.o.mono ?_;rintro e w1 ⟨rfl,rfl⟩;go_wp2_with fail
 all_goals first|(exfalso;omega)|skip
 refine HG.o.mono ?_;rintro e w1 ⟨rfl,rfl⟩;go_upto_region 4 with fail;refine bh 11 [(0,false),(1,false),(2,false),(5,false),(6,false),(7,false),(8,false),(9,false),(3,true),(4,false),(10,true)] (λ_=>True) (by kernel_rfl) (by kernel_rfl) (λc a d v w h=>by cases d<;>exact h) trivial ?_;repeat
  refine bS (v:= ?_) (by rfl) (by rfl) (λw' hS=> ?_) (λK U=> ?_);rotate_left
  ·clear hS;go_simp;try with_reducible rfl
  go_simp;refine U _ ?_;clear U K
 refine bG (by rfl) (λK U=> ?_);go_simp;refine h7.o.mono ?_;rintro e w1 ⟨rfl,rfl⟩;refine U.out _ _ trivial ?_;clear U K;repeat
  refine bS (v:= ?_) (by rfl) (by rfl) (λw' hS=> ?_) (λK U=> ?_);rotate_left
  ·clear hS;go_simp;try with_reducible rfl
  go_simp;refine U _ ?_;clear U K
 refine bG (by rfl) (λK U=> ?_);go_simp;refine f7.o.mono ?_;rintro e w1 ⟨rfl,rfl⟩;refine U.out _ _ trivial ?_;clear U K;show wpList _ _ _ _ _ _;by_cases c8:J.bP (l.take N)=J.dH ((l.drop N).take 4)
 ·have hb:(((J.bP (l.take N):Nat):Int) !=((J.dH ((l.drop N).take 4):Nat):Int))=false:=(by rw[c8];simp);have e0:=ae c8;clear c8;go_wp2_with fail;refine f8.o.mono ?_;rintro e w1 ⟨rfl,rfl⟩;go_wp2_with fail;refine h6.o.mono ?_;rintro e w1 ⟨hm,c2⟩;have c2:Below w.heap.size w w1:=Ay c2;have a0:=ae c2;obtain⟨bn,bw,ch,wr,b0,b1,b2,b3,d0,d1,d2,d3,f,F,G⟩:=e8.o;have h9:=ae ((c2.block p (ai f).1).trans f);have m:=ae G;have C:=ae F;have g7:=aj w1 p h9.o;clear c2 f F G;cases hL:J.aX ((l.take N).drop 9)with
   |none=>
    rw[hL]at hm;simp only at hm;subst hm;have E:J.take s.gen s.commits s.now l first= .bad 4:=Gy HV.o (by rw[HL.o];omega) (by rw[<-T.o];exact e0.o) (by rw[<-T.o];exact hL);have I:=ae E;clear E hL;have c1:∀e w',e= .returned (.tuple #[.int .i64 0, .int .i64 4])->w'=w1->fR w p M s l first e w':=by
     rintro e w' rfl rfl;unfold fR;rw[I.o];exact⟨rfl,M,Step.aC a0.o⟩
    have b7:=ae c1;clear c1;go_wp2_with fail
    all_goals (go_ret2;exact b7.o _ _ rfl rfl)
   |some L=>
    rw[hL]at hm;simp only at hm;obtain⟨vL,rfl,a9⟩:=hm;have g0:=ae a9;obtain⟨AL,nL,cL,rfl,g5,k3⟩:=a9.chs;have i7:=ae g5;clear a9 g5;have b5:w1.cell? ⟨b,o,none⟩=some (.int .u8 ((l.headD 0).toNat:Nat)):=by
     have h0:0<l.length:=(by have:=HL.o;omega);refine((a0.o.cell (p:=⟨b,o,none⟩) h5.o).trans (h8.o 0 h0)).trans ?_;cases l with
      |nil=>simp at h0
      |cons y t=>rfl
    by_cases D:(if first=true/\0<s.gen then l.headD 0=1 else l.headD 0=0/\J.dH ((l.take 5).drop 1)=s.commits+1)
    ·have f4:=ae (λha=>GA (now:=s.now) (first:=first) HV.o (by rw[HL.o];omega) (by rw[<-T.o];exact e0.o) (by rw[<-T.o];exact hL) D ha);have f5:=ae (λnow' ha=>Lk (now:=s.now) (now':=now') (first:=first) HV.o (by rw[HL.o];omega) (by rw[<-T.o];exact e0.o) (by rw[<-T.o];exact hL) D ha);have d8:=ae (g2 L (by rw[<-T.o];exact hL));have f6:=ae (J.jQ _ _ L (aq _) hL);clear hL g2;by_cases V:first=true/\0<s.gen
     ·rw[if_pos V]at D;obtain⟨rfl,hg⟩:=V;have i4:(0:Int)<(s.gen:Int):=(by omega);have b6:((((l.headD 0).toNat:Nat):Int)==1)=true:=(by rw[D];rfl);generalize(l.headD 0).toNat=x0 at b5 b6;clear D f2;go_upto_region 13 with fail;clear b5 g7;go_wp2_with fail;go_loopw [13,91] (fun _ i wr=>∃k:Nat,k<=L.length/\i= .int .i64 k/\∃u,J.bA s.now (L.take k)=some u/\bM wr p (fun k=>M k/\k<w.heap.size) {s with now:=u}/\Step (fun k=>M k/\k<w.heap.size) (fun k=>M k/\k<w.heap.size) w1 wr) (fun _ i _=>L.length - (intOf i).toNat)
      case atStart=>exact⟨0,Nat.zero_le _,rfl,s.now,rfl,e8.o.cap.below a0.o,Step.refl _ _⟩
      case round=>
       obtain⟨k,hk,rfl,u,Q,hq,c7⟩:=hrel;have a5:=ae Q;have HQ:=ae hq;have q:=ae c7;clear Q hq c7;by_cases a4:k<L.length
       ·obtain⟨g,cg,x,e,f3,a8,r0,r1,r2,Y⟩:=g0.o.read a4;injection e with e1 e3 e2;subst e1 e2 e3;have a3:¬(M g/\g<w.heap.size):=λh=>absurd h.2 (Nat.not_lt.2 f3);have r0:=(q.o.cell (a:=⟨g,k*3,none⟩) a8 a3).trans r0;have r1:=(q.o.cell (a:=⟨g,k*3+1,none⟩) a8 a3).trans r1;have r2:=(q.o.cell (a:=⟨g,k*3+2,none⟩) a8 a3).trans r2;have Y:=(Y.weak (M':=λk=>M k/\k<w.heap.size) (λj h=>h.2)).step q.o;obtain⟨Ax,rfl⟩:=Y.aU;have a6:=ae (f6.o L[k] (List.getElem_mem a4)).k;have a7:=ae (Jy a4 a5.o);have c4:=Au _ _ _ a5.o;have e6:=ae (show u.length<=100000000 by have:=d8.o;rw[List.length_take]at c4;omega);have i6:k<=90000000:=(by have:=d8.o;omega);have i5:(k:Int)<(L.length:Int):=(by omega);have b8:=ae Y;generalize L[k]=f0 at r0 r1 r2 b8 a7 a6;obtain⟨key,val,gone⟩:=f0;simp only at r0 r1 r2;obtain⟨a1,b9,c0,c9,d4,d5,d6,d7,y0,y1,y2,y3,f,F,G⟩:=HQ.o;have a2:Below wr.heap.size wr (wr.alloc (.cells #[.string ⟨key.toArray⟩, .slice Ax val.length val.length, .bool gone] 163)):=(ak _ _).alloc (aq _) _;have z:=ae ((a2.block p (ai f).1).trans f);have C:=ae F;have m:=ae (G.below a2);have Z:=ae a2;clear c4 Y f F G a2 a3;cases gone with
         |false=>
          go_wp2_with fail;refine(sP p a1 _ u _ ⟨key.toArray⟩ Ax val.length val.length val _ z.o rfl m.o.now m.o.mbn (nT a6.o) (b8.o.step (Step.aC Z.o)) e6.o).mono ?_;rintro e w5 ⟨rfl,W,r⟩;have S:=Jw m.o z.o C.o r W;have H:=ae S;clear W r S;go_wp2_with fail;go_roundw
          case rel=>
           refine⟨k+1,by omega,by go_num,_,a7.o,H.o.1,q.o.trans ((Step.aC Z.o).trans H.o.2)⟩
          case measure=>simp[intOf];omega
         |true=>
          have c3:=pI p a1 _ u _ ⟨key.toArray⟩ Ax val.length val.length _ z.o rfl m.o.now m.o.mbn (nT a6.o);have e5:=ae c3;clear c3;go_wp2_with fail;refine e5.o.mono ?_;rintro e w5 ⟨rfl,W,r⟩;have S:=Jw m.o z.o C.o r W;have H:=ae S;clear W r S;have B:=a7.o;simp only[if_true]at B;cases hlk:J.look u key with
           |none=>
            rw[if_pos hlk]at B;have E:=f4.o (Jz B);have I:=ae E;have c6:=q.o.trans ((Step.aC Z.o).trans H.o.2);have e9:=ae c6;simp only[Option.isSome_none];clear E c6 B hlk;go_wp2_with fail;go_ret2;unfold fR;rw[I.o];exact⟨rfl,_,((Step.aC a0.o).trans e9.o).tU⟩
           |some lv=>
            rw[if_neg (by rw[hlk];simp)]at B;have e7:=ae B;simp only[Option.isSome_some];clear B hlk;go_wp2_with fail;go_roundw
            case rel=>
             exact⟨k+1,by omega,by go_num,_,e7.o,H.o.1,q.o.trans ((Step.aC Z.o).trans H.o.2)⟩
            case measure=>simp[intOf];omega
       ·obtain rfl:k=L.length:=(by omega);have Q:=a5.o;rw[List.take_length]at Q;have I:=ae (f5.o u Q);obtain⟨a1,b9,c0,c9,d4,d5,d6,d7,y0,y1,y2,y3,f,F,G⟩:=HQ.o;have z:=ae f;have C:=ae F;have m:=ae G;have i0:=aj wr p f;have S:=aD f;clear Q f F G;go_wp2_with fail;go_ret2;have r:=ay (World.grownBy.refl wr (some p)) 7 (.int .i64 (nm:Int));have a9:=aB z.o 7 (.int .i64 (nm:Int));have P:=m.o.own z.o C.o r;have e4:(9+v+4:Nat)=O:=(by rw[f9.o,T.o]);unfold fR;rw[I.o];simp only;rw[e4,<-d9.o];exact⟨rfl,_,⟨a1,b9,c0,c9,d4,d5,d6,d7,y0,y1,y2,y3,a9,C.o,⟨P.now,P.mbn,P.was,P.chs,P.mch,P.wrs,P.f0,P.f1,P.f2,P.f3,P.e0,P.e1,P.e2,P.e3,P.dd⟩⟩,((Step.aC a0.o).trans (q.o.trans (Step.bg r (λk e _=>by cases e;exact C.o)))).tU⟩
     ·rw[if_neg V]at D;obtain⟨l0,h3⟩:=D;have i1:IntKind.i64.wrap ((s.commits:Int)+1)=(s.commits:Int)+1:=IntWalk.i64_in _ (by omega);have b4:first=true->s.gen=0:=λe=>by
       rcases Nat.eq_zero_or_pos s.gen with h|h
       ·exact h
       ·exact absurd ⟨e,h⟩ V
      have b6:((((l.headD 0).toNat:Nat):Int)==0)=true:=(by rw[l0];rfl);have h4:((nm:Int)==(s.commits:Int)+1)=true:=(by have e:nm=s.commits+1:=d9.o.trans h3;rw[e];simp);generalize(l.headD 0).toNat=x0 at b5 b6;clear l0 h3 V f2;cases first
      have g1:=trivial
      all_goals
       first
        |have g1:=g1
         skip
        |have i2:=b4 rfl
         have i3:¬(0:Int)<(s.gen:Int):=by omega
       clear b4;go_upto_region 13 with fail;clear b5 g7;go_wp2_with fail;go_loopw [13,91] (fun _ i wr=>∃k:Nat,k<=L.length/\i= .int .i64 k/\∃u,J.bA s.now (L.take k)=some u/\bM wr p (fun k=>M k/\k<w.heap.size) {s with now:=u}/\Step (fun k=>M k/\k<w.heap.size) (fun k=>M k/\k<w.heap.size) w1 wr) (fun _ i _=>L.length - (intOf i).toNat)
       case atStart=>exact⟨0,Nat.zero_le _,rfl,s.now,rfl,e8.o.cap.below a0.o,Step.refl _ _⟩
       case round=>
        obtain⟨k,hk,rfl,u,Q,hq,c7⟩:=hrel;have a5:=ae Q;have HQ:=ae hq;have q:=ae c7;clear Q hq c7;by_cases a4:k<L.length
        ·obtain⟨g,cg,x,e,f3,a8,r0,r1,r2,Y⟩:=g0.o.read a4;injection e with e1 e3 e2;subst e1 e2 e3;have a3:¬(M g/\g<w.heap.size):=λh=>absurd h.2 (Nat.not_lt.2 f3);have r0:=(q.o.cell (a:=⟨g,k*3,none⟩) a8 a3).trans r0;have r1:=(q.o.cell (a:=⟨g,k*3+1,none⟩) a8 a3).trans r1;have r2:=(q.o.cell (a:=⟨g,k*3+2,none⟩) a8 a3).trans r2;have Y:=(Y.weak (M':=λk=>M k/\k<w.heap.size) (λj h=>h.2)).step q.o;obtain⟨Ax,rfl⟩:=Y.aU;have a6:=ae (f6.o L[k] (List.getElem_mem a4)).k;have a7:=ae (Jy a4 a5.o);have c4:=Au _ _ _ a5.o;have e6:=ae (show u.length<=100000000 by have:=d8.o;rw[List.length_take]at c4;omega);have i6:k<=90000000:=(by have:=d8.o;omega);have i5:(k:Int)<(L.length:Int):=(by omega);have b8:=ae Y;generalize L[k]=f0 at r0 r1 r2 b8 a7 a6;obtain⟨key,val,gone⟩:=f0;simp only at r0 r1 r2;obtain⟨a1,b9,c0,c9,d4,d5,d6,d7,y0,y1,y2,y3,f,F,G⟩:=HQ.o;have a2:Below wr.heap.size wr (wr.alloc (.cells #[.string ⟨key.toArray⟩, .slice Ax val.length val.length, .bool gone] 163)):=(ak _ _).alloc (aq _) _;have z:=ae ((a2.block p (ai f).1).trans f);have C:=ae F;have m:=ae (G.below a2);have Z:=ae a2;clear c4 Y f F G a2 a3;cases gone with
          |false=>
           go_wp2_with fail;refine(sP p a1 _ u _ ⟨key.toArray⟩ Ax val.length val.length val _ z.o rfl m.o.now m.o.mbn (nT a6.o) (b8.o.step (Step.aC Z.o)) e6.o).mono ?_;rintro e w5 ⟨rfl,W,r⟩;have S:=Jw m.o z.o C.o r W;have H:=ae S;clear W r S;go_wp2_with fail;go_roundw
           case rel=>
            refine⟨k+1,by omega,by go_num,_,a7.o,H.o.1,q.o.trans ((Step.aC Z.o).trans H.o.2)⟩
           case measure=>simp[intOf];omega
          |true=>
           have c3:=pI p a1 _ u _ ⟨key.toArray⟩ Ax val.length val.length _ z.o rfl m.o.now m.o.mbn (nT a6.o);have e5:=ae c3;clear c3;go_wp2_with fail;refine e5.o.mono ?_;rintro e w5 ⟨rfl,W,r⟩;have S:=Jw m.o z.o C.o r W;have H:=ae S;clear W r S;have B:=a7.o;simp only[if_true]at B;cases hlk:J.look u key with
            |none=>
             rw[if_pos hlk]at B;have E:=f4.o (Jz B);have I:=ae E;have c6:=q.o.trans ((Step.aC Z.o).trans H.o.2);have e9:=ae c6;simp only[Option.isSome_none];clear E c6 B hlk;go_wp2_with fail;go_ret2;unfold fR;rw[I.o];exact⟨rfl,_,((Step.aC a0.o).trans e9.o).tU⟩
            |some lv=>
             rw[if_neg (by rw[hlk];simp)]at B;have e7:=ae B;simp only[Option.isSome_some];clear B hlk;go_wp2_with fail;go_roundw
             case rel=>
              exact⟨k+1,by omega,by go_num,_,e7.o,H.o.1,q.o.trans ((Step.aC Z.o).trans H.o.2)⟩
             case measure=>simp[intOf];omega
        ·obtain rfl:k=L.length:=(by omega);have Q:=a5.o;rw[List.take_length]at Q;have I:=ae (f5.o u Q);obtain⟨a1,b9,c0,c9,d4,d5,d6,d7,y0,y1,y2,y3,f,F,G⟩:=HQ.o;have z:=ae f;have C:=ae F;have m:=ae G;have i0:=aj wr p f;have S:=aD f;clear Q f F G;go_wp2_with fail;go_ret2;have r:=ay (World.grownBy.refl wr (some p)) 7 (.int .i64 (nm:Int));have a9:=aB z.o 7 (.int .i64 (nm:Int));have P:=m.o.own z.o C.o r;have e4:(9+v+4:Nat)=O:=(by rw[f9.o,T.o]);unfold fR;rw[I.o];simp only;rw[e4,<-d9.o];exact⟨rfl,_,⟨a1,b9,c0,c9,d4,d5,d6,d7,y0,y1,y2,y3,a9,C.o,⟨P.now,P.mbn,P.was,P.chs,P.mch,P.wrs,P.f0,P.f1,P.f2,P.f3,P.e0,P.e1,P.e2,P.e3,P.dd⟩⟩,((Step.aC a0.o).trans (q.o.trans (Step.bg r (λk e _=>by cases e;exact C.o)))).tU⟩
    ·have E:J.take s.gen s.commits s.now l first= .bad 4:=Gz HV.o (by rw[HL.o];omega) (by rw[<-T.o];exact e0.o) (by rw[<-T.o];exact hL) D;have I:=ae E;clear E hL;have c1:∀e w',e= .returned (.tuple #[.int .i64 0, .int .i64 4])->w'=w1->fR w p M s l first e w':=by
      rintro e w' rfl rfl;unfold fR;rw[I.o];exact⟨rfl,M,Step.aC a0.o⟩
     have b7:=ae c1;clear c1;by_cases V:first=true/\0<s.gen
     ·rw[if_pos V]at D;obtain⟨rfl,hg⟩:=V;have i4:(0:Int)<(s.gen:Int):=(by omega);have b6:(((l.headD 0).toNat:Nat):Int)≠1:=λe=>D (UInt8.toNat_inj.1 (by show _=1;omega));have h4:((((l.headD 0).toNat:Nat):Int)==1)=false:=(by simpa using b6);generalize(l.headD 0).toNat=x0 at b5 b6 h4;clear D;go_wp2_with fail
      all_goals (go_ret2;exact b7.o _ _ rfl rfl)
     ·rw[if_neg V]at D;have i1:IntKind.i64.wrap ((s.commits:Int)+1)=(s.commits:Int)+1:=IntWalk.i64_in _ (by omega);have b4:first=true->s.gen=0:=λe=>by
       rcases Nat.eq_zero_or_pos s.gen with h|h
       ·exact h
       ·exact absurd ⟨e,h⟩ V
      have g3:¬((((l.headD 0).toNat:Nat):Int)=0/\(nm:Int)=(s.commits:Int)+1):=λ⟨e1,e2⟩=>D ⟨UInt8.toNat_inj.1 (by show _=0;omega),by rw[<-d9.o];omega⟩;have k9:((((l.headD 0).toNat:Nat):Int)==0)=false\/((((l.headD 0).toNat:Nat):Int)==0)=true/\((nm:Int)==(s.commits:Int)+1)=false:=by
       by_cases e:(((l.headD 0).toNat:Nat):Int)=0
       ·exact .inr ⟨by simpa using e,by have:=λh=>g3 ⟨e,h⟩;simpa using this⟩
       ·exact .inl (by simpa using e)
      generalize(l.headD 0).toNat=x0 at b5 k9;clear D g3 V f2;rcases k9 with k9|⟨k9,j4⟩
      have i9:=trivial
      all_goals
       cases first with
        |false=>
         clear b4;go_wp2_with fail
         all_goals (go_ret2;exact b7.o _ _ rfl rfl)
        |true=>
         have i2:=b4 rfl;have i3:¬(0:Int)<(s.gen:Int):=(by omega);clear b4;go_wp2_with fail
         all_goals (go_ret2;exact b7.o _ _ rfl rfl)
 ·have hb:(((J.bP (l.take N):Nat):Int) !=((J.dH ((l.drop N).take 4):Nat):Int))=true:=(by simp;omega);have E:J.take s.gen s.commits s.now l first= .bad 16:=Gx HV.o (by rw[HL.o];omega) (by rw[<-T.o];exact c8);have I:=ae E;clear c8 E;go_wp2_with fail;go_ret2;unfold fR;rw[I.o];exact⟨rfl,M,Step.aC (ak _ w).drew⟩
namespace J
theorem yr:∀(n:Nat) (b:B) (L:List cd),b.length<=n->aX b=some L->L.length<=b.length:=by
 intro n
 induction n with
 |zero=>
  intro b L d h;obtain rfl:b=[]:=List.eq_nil_of_length_eq_zero (by omega);rw[fq]at h;injection h with h;subst h;simp
 |succ n e=>
  intro b L d h;by_cases h0:b=[]
  ·subst h0;rw[fq]at h;injection h with h;subst h;simp
  ·cases hc:chgOf b with
   |none=>rw[iH h0 hc]at h;cases h
   |some a=>
    obtain⟨c,r⟩:=a;rw[iI h0 hc]at h;have f:=lg hc;cases hr:aX r with
    |none=>rw[hr]at h;cases h
    |some L'=>
     rw[hr]at h;injection h with h;subst h;have:=e r L' (by omega) hr;simp;omega
end J
def nk (w:World) (p:Nat) (M:Nat->Prop) (s:J.St) (l:List UInt8) (first:Bool) (e:Ending) (w':World):Prop:=
 match J.take s.gen s.commits s.now l first with
 | .stop=>e= .returned (.tuple #[.int .i64 0, .int .i64 0])/\w=w'
 | .bad er=>e= .returned (.tuple #[.int .i64 0, .int .i64 er])/\∃M',Step M M' w w'
 | .took n c now=>e= .returned (.tuple #[.int .i64 (n:Nat), .int .i64 0])/\∃M',bM w' p M' {s with commits:=c,now:=now}/\Step M M' w w'
theorem Dq (p:Nat) (M:Nat->Prop) (s:J.St) (A:Option Addr) (n c:Nat) (l:List UInt8) (first:Bool) (w:World) (b:Nat->Prop) (hst:bM w p M s) (h:By w b A n l) (d:n<=c) (f:n<=90000000) (k:s.commits<=5000000000) (o:s.now.length+n<=90000000):
  Calls Tryz.prog 82 #[.pointer (some ⟨p,0,none⟩), .slice A n c, .bool first] w (nk w p M s l first):=by
 have m:l.length=n:=h.1;by_cases i:n<9
 ·refine(Gw p A n c l first w b h i).mono ?_;rintro e w' ⟨rfl,rfl⟩;unfold nk;rw[Gu (by omega)];exact⟨rfl,rfl⟩
 ·by_cases g:(n:Int) - 13<(J.dH ((l.take 9).drop 5):Nat)
  ·refine(Lj p A n c l first w b h d (by omega) f g).mono ?_;rintro e w' ⟨rfl,rfl⟩;unfold nk;rw[Gv (by rw[m];exact g)];exact⟨rfl,rfl⟩
  ·refine(Pn p M s A n c l first w b hst h d (by omega) f _ rfl (by omega) k (λL j=> ?_)).mono ?_
   ·have:=J.yr _ _ L (aq _) j;rw[List.length_drop,List.length_take]at this;omega
   ·intro e w' a;unfold fR at a;unfold nk;split at a
    ·exact a.elim
    ·rename_i h;first|exact a|(rw[h];exact a)
    ·rename_i h;first|exact a|(rw[h];exact a)
end Go.Proofs.YtipljcmmokaokaaGreat
namespace Go.Proofs.YtipljcmmokaokaaGreat
namespace J
theorem Lm {b:B} {c:cd} {r:B} (h:chgOf b=some (c,r)):c.len+r.length<=b.length:=by
 unfold chgOf at h;split at h
 ·cases h
 ·dsimp only at h;split at h
  ·cases h
  ·split at h
   ·injection h with h;injection h with h1 h2;subst h1 h2;simp[cd.len];omega
   ·split at h
    ·cases h
    ·rename_i h3;injection h with h;injection h with h1 h2;subst h1 h2
     simp only[List.length_drop]at h3;simp only[cd.len,List.length_drop,List.length_take,Bool.false_eq_true,if_false];omega
theorem ri:∀(n:Nat) (b:B) (L:List cd),b.length<=n->aX b=some L->(encs L).length<=b.length:=by
 intro n
 induction n with
 |zero=>
  intro b L d h;obtain rfl:b=[]:=List.eq_nil_of_length_eq_zero (by omega);rw[fq]at h;injection h with h;subst h;simp[encs]
 |succ n e=>
  intro b L d h;by_cases h0:b=[]
  ·subst h0;rw[fq]at h;injection h with h;subst h;simp[encs]
  ·cases hc:chgOf b with
   |none=>rw[iH h0 hc]at h;cases h
   |some a=>
    obtain⟨c,r⟩:=a;rw[iI h0 hc]at h;have f:=lg hc;have g:=Lm hc;cases hr:aX r with
    |none=>rw[hr]at h;cases h
    |some L'=>
     rw[hr]at h;injection h with h;subst h;have:=e r L' (by omega) hr;show(encs (c::L')).length<=_;rw[dw];omega
theorem jT:∀(L:List cd) (m m':List (B×B)),bA m L=some m'->(encs (values m')).length<=(encs (values m)).length+(encs L).length
 |[],m,m',h=>by injection h with h;subst h;simp
 |c::t,m,m',h=>by
  rw[eJ]at h;rw[dw];have hd:=vG m c.key;have a:=CA m c.key c.val;split at h
  ·split at h
   ·cases h
   ·have:=jT t _ m' h;omega
  ·rename_i hg
   have:=jT t _ m' h;have e:c.len=7+c.key.length+c.val.length:=(by unfold cd.len;simp[hg];omega);omega
theorem Ln {gen commits:Nat} {now:List (B×B)} {b:B} {first:Bool} {n c':Nat} {now':List (B×B)} (h:take gen commits now b first= .took n c' now'):(encs (values now')).length<=(encs (values now)).length+n:=by
 obtain⟨h1,_,⟨L,a,_,c⟩,d,_⟩:=nP.1 h;have:=ri _ _ L (aq _) a;rw[List.length_drop,List.length_take]at this;have:=jT L now now' c;omega
theorem wH {gen:Nat} {b:B} {a c d c':Nat} {m m':List (B×B)} (h:Reads gen b a c m d c' m'):(encs (values m')).length+a<=(encs (values m)).length+d:=by
 induction h with
 |refl=>exact aq _
 |step h t e=>have:=Ln h;omega
theorem Lp {gen:Nat} {b:B} {a c':Nat} {m':List (B×B)} (h:Reads gen b 0 0 [] a c' m'):m'.length<=a:=by
 have h1:=wH h;have c:=pB m';have d:(encs (values ([]:List (B×B)))).length=0:=rfl;omega
theorem Dr {gen commits:Nat} {now:List (B×B)} {b:B} {first:Bool} {e:Int} (h:take gen commits now b first= .bad e):e=16\/e=4:=by
 unfold take at h;split at h
 ·cases h
 ·dsimp only at h;split at h
  ·injection h with h;exact .inl h.symm
  ·cases hL:aX ((b.take (9+dH ((b.take 9).drop 5))).drop 9)with
   |none=>rw[hL]at h;injection h with h;exact .inr h.symm
   |some L=>
    rw[hL]at h;dsimp only at h;cases ha:bA now L with
    |none=>rw[ha]at h;dsimp only at h;rw[ite_self]at h;injection h with h;exact .inr h.symm
    |some now'=>
     rw[ha]at h;dsimp only at h;by_cases a:(if first=true/\0<gen then b.headD 0=1 else b.headD 0=0/\dH ((b.take 5).drop 1)=commits+1)
     ·rw[if_neg (not_not_intro a)]at h;cases h
     ·rw[if_pos a]at h;injection h with h;exact .inr h.symm
theorem AD {m:cS} {at_ commits:Nat} {now:List (B×B)} (h0:m.a0.length<=8388608) (h1:m.a1.length<=8388608) (h:Reads (current m.h0 m.h1).1 (m.area (current m.h0 m.h1).2.1) 0 0 [] at_ commits now)
  (a:take (current m.h0 m.h1).1 commits now ((m.area (current m.h0 m.h1).2.1).drop at_) (at_==0)= .stop):recover m= .ok (recovered m at_ commits now):=by
 unfold J.recover;rw[if_neg (by omega)];dsimp only;rw[oA h a _ (by omega) (Nat.zero_le _)];rfl
theorem Ds {m:cS} {at_ commits:Nat} {now:List (B×B)} {e:Int} (h0:m.a0.length<=8388608) (h1:m.a1.length<=8388608) (h:Reads (current m.h0 m.h1).1 (m.area (current m.h0 m.h1).2.1) 0 0 [] at_ commits now)
  (a:take (current m.h0 m.h1).1 commits now ((m.area (current m.h0 m.h1).2.1).drop at_) (at_==0)= .bad e):recover m= .error e:=by
 unfold J.recover;rw[if_neg (by omega)];dsimp only;rw[CC h a _ (by omega) (Nat.zero_le _)]
theorem Dt {m:cS} {n:Nat} (h0:m.a0.length<=n) (h1:m.a1.length<=n) (i:Nat):(m.area i).length<=n:=by unfold cS.area;split<;>assumption
end J
theorem ZQ {h:J.B} (b:J.valid h≠none):h.length=24:=by
 cases e:J.valid h with
 |none=>exact absurd e b
 |some x=>exact(J.fc (g:=x.1) (a:=x.2) e).1
theorem Du (h:J.B):(if J.valid h=none then []else h).length<=8388608:=by
 split
 ·simp
 ·rename_i hv;rw[ZQ hv];omega
theorem AE {m:J.cS} {at_ commits:Nat} {now:List (J.B×J.B)} (h0:m.a0.length<=8388608) (h1:m.a1.length<=8388608) (h:J.Reads (J.current m.h0 m.h1).1 (m.area (J.current m.h0 m.h1).2.1) 0 0 [] at_ commits now):Ok (J.recovered m at_ commits now):=by
 have a:=J.qH m.h0 m.h1;have c:=J.Dt h0 h1 (J.current m.h0 m.h1).2.1;have g:=h.le.2 (Nat.zero_le _);have d:=J.wH h;have i:(J.encs (J.values ([]:List (J.B×J.B)))).length=0:=rfl;have f:=h.fit J.uT J.nO (by omega);have b:((m.area (J.current m.h0 m.h1).2.1).take at_).length<=8388608:=by rw[List.length_take];omega
 have j:(J.recovered m at_ commits now).logged=0:=rfl;have k:(J.recovered m at_ commits now).changes=[]:=rfl;refine⟨Nat.zero_le _, ?_,a.2.1,a.1,a.2.2,Nat.zero_le _,aq _,aq _,(λe=>by cases e),λ_=>rfl, ?_, ?_, ?_, ?_, ?_, ?_⟩
 ·show commits<=4294967296+0;omega
 ·exact J.vI _ _ _ _ h0 b
 ·exact J.vJ _ _ _ _ h1 b
 ·exact Du m.h0
 ·exact Du m.h1
 ·show(J.encs (J.values now)).length<=8388608+0+0;omega
 ·show 0<=_;omega
end Go.Proofs.YtipljcmmokaokaaGreat
namespace Go.Proofs.YtipljcmmokaokaaGreat
open Go.RowKit Go.Lib Go.Maps Go.WideMaps
set_option maxRecDepth 100000
theorem fP.aU {w:World} {M:Nat->Prop} {v:Value} {l:List UInt8} (h:fP w M v l):∃A n c,v= .slice A n c:=by
 rcases h with⟨h,_⟩|h
 ·exact dL h
 ·obtain⟨A,e⟩:=h.aU;exact⟨_,_,_,e⟩
theorem Sl.slice3 {w:World} {M:Nat->Prop} {v:Value} {l:List UInt8} (h:Sl w M v l):∃A n c,v= .slice A n c:=by
 obtain⟨A,c,e⟩:=h.aU;exact⟨_,_,_,e⟩
theorem wI {w:World} {M:Nat->Prop} {base n:Nat} {v:Value} {l:List UInt8} (h:w.ownsRow base 5 1 v n (dK l)) (b:∀k,M k->k<base):Sl w M v l:=by
 have a:l.length=n:=by have:=h.1;simpa [fu] using this
 obtain⟨A,c,e,f,i⟩:=gl h b;rcases h.2 with⟨rfl,rfl⟩|⟨g,cap,cur,rfl,p,d,h1,j,m,o⟩
 ·exact .inl ⟨none,rfl,List.eq_nil_of_length_eq_zero a⟩
 ·injection e with e1 e2 e3;subst e1 e3 a;exact .inr ⟨g,0,cap,rfl,f,(ai d).1,i⟩
theorem cA.disk {w w':World} {M:Nat->Prop} {s:J.St} {bn:Nat} {bw:Option Nat} {ch wr b0 b1 b2 b3 d0 d1 d2 d3 d0' d1' d2' d3':Value} {m:J.cS} (h:cA w M s bn bw ch wr b0 b1 b2 b3 d0 d1 d2 d3) (a:Below w.heap.size w w')
  (e0:Sl w' M d0' m.h0) (e1:Sl w' M d1' m.h1) (e2:fP w' M d2' m.a0) (e3:fP w' M d3' m.a1) (dd:∀k,d2'.ownBlock=some k->d3'.ownBlock=some k->¬M k):cA w' M {s with disk:=m} bn bw ch wr b0 b1 b2 b3 d0' d1' d2' d3':=by
 have P:=h.below a;exact⟨P.now,P.mbn,P.was,P.chs,P.mch,P.wrs,P.f0,P.f1,P.f2,P.f3,e0,e1,e2,e3,dd⟩
theorem lM {a b:World} {n:Nat} (h:Below n a.drew b):Below n a b:=⟨h.os,h.tape,h.output,h.size,h.block⟩
theorem JB:(∀(p:Nat) (M:Nat->Prop) (s:J.St) (A:Option Addr) (n c:Nat) (bs:List UInt8) (w:World) (h:bM w p M s) (L:∀k,M k->k<w.heap.size) (Q:Sl w M (.slice A n c) bs) (a3:s.logged+n<=100000000) (S:s.writes.length+1<=100000000) (O:bs.length=n) (h0:0<n) (a7:s.disk.h0.length<=40000000) (b6:n<=40000000),Calls Tryz.prog 130 #[.pointer (some ⟨p,0,none⟩), .agg #[.int .u8 2, .int .i64 0, .slice A n c]] w λe w'=>(∃r,e= .returned r)/\∃M',bM w' p M' (J.write s ⟨2,0,bs⟩)/\Step M M' w w')/\(∀(p:Nat) (M:Nat->Prop) (s:J.St) (A:Option Addr) (n c:Nat) (bs:List UInt8) (w:World) (h:bM w p M s) (L:∀k,M k->k<w.heap.size) (Q:Sl w M (.slice A n c) bs) (a3:s.logged+n<=100000000) (S:s.writes.length+1<=100000000) (O:bs.length=n) (h0:0<n) (a7:s.disk.h1.length<=40000000) (b6:n<=40000000),Calls Tryz.prog 130 #[.pointer (some ⟨p,0,none⟩), .agg #[.int .u8 2, .int .i64 1, .slice A n c]] w λe w'=>(∃r,e= .returned r)/\∃M',bM w' p M' (J.write s ⟨2,1,bs⟩)/\Step M M' w w')/\(∀(p:Nat) (M:Nat->Prop) (s:J.St) (A:Option Addr) (n c:Nat) (bs:List UInt8) (w:World) (h:bM w p M s) (L:∀k,M k->k<w.heap.size) (Q:Sl w M (.slice A n c) bs) (a3:s.logged+n<=100000000) (S:s.writes.length+1<=100000000) (O:bs.length=n),Calls Tryz.prog 130 #[.pointer (some ⟨p,0,none⟩), .agg #[.int .u8 1, .int .i64 0, .slice A n c]] w λe w'=>(∃r,e= .returned r)/\∃M',bM w' p M' (J.write s ⟨1,0,bs⟩)/\Step M M' w w')/\(∀(p:Nat) (M:Nat->Prop) (s:J.St) (A:Option Addr) (n c:Nat) (bs:List UInt8) (w:World) (h:bM w p M s) (L:∀k,M k->k<w.heap.size) (Q:Sl w M (.slice A n c) bs) (a3:s.logged+n<=100000000) (S:s.writes.length+1<=100000000) (O:bs.length=n),Calls Tryz.prog 130 #[.pointer (some ⟨p,0,none⟩), .agg #[.int .u8 1, .int .i64 1, .slice A n c]] w λe w'=>(∃r,e= .returned r)/\∃M',bM w' p M' (J.write s ⟨1,1,bs⟩)/\Step M M' w w'):=by
 refine⟨?z0, ?z1, ?z2, ?z3⟩
 case' z0=>intro p M s A n c bs w h L Q a3 S O h0 a7 b6
 case' z1=>(intro p M s A n c bs w h L Q a3 S O h0 a7 b6;have b:=trivial)
 case' z2=>(intro p M s A n c bs w h L Q a3 S O;have g:=trivial)
 case' z3=>(intro p M s A n c bs w h L Q a3 S O;have i:=trivial)
 all_goals
  obtain⟨bn,bw,ch,wr,b0,b1,b2,b3,d0,d1,d2,d3,h1,h2,h3⟩:=h;have H1:=ae h1;have H2:=ae h2;have H3:=ae h3;have HV:=ae Q;have HM:=ae L;have f6:p<w.heap.size:=(ai h1).1;first
   |have i:=i
    have hB:Below w.heap.size w (w.alloc (.cells #[.int .u8 1, .int .i64 1, .slice A n c] 139)):=(ak _ _).alloc (aq _) _
    skip
   |have g:=g
    have hB:Below w.heap.size w (w.alloc (.cells #[.int .u8 1, .int .i64 0, .slice A n c] 139)):=(ak _ _).alloc (aq _) _
    skip
   |have b:=b
    have hB:Below w.heap.size w (w.alloc (.cells #[.int .u8 2, .int .i64 1, .slice A n c] 139)):=(ak _ _).alloc (aq _) _
    skip
   |have hB:Below w.heap.size w (w.alloc (.cells #[.int .u8 2, .int .i64 0, .slice A n c] 139)):=(ak _ _).alloc (aq _) _
  have d4:=(hB.block p f6).trans h1;have hc:=aj _ p d4;have hf:=aD d4;first
   |have i:=i
    have Y:=λj=>World.cell?_alloc_new w #[.int .u8 1, .int .i64 1, .slice A n c] 139 j
    skip
   |have g:=g
    have Y:=λj=>World.cell?_alloc_new w #[.int .u8 1, .int .i64 0, .slice A n c] 139 j
    skip
   |have b:=b
    have Y:=λj=>World.cell?_alloc_new w #[.int .u8 2, .int .i64 1, .slice A n c] 139 j
    skip
   |have Y:=λj=>World.cell?_alloc_new w #[.int .u8 2, .int .i64 0, .slice A n c] 139 j
  obtain⟨vs,g1,g2,g3,g4⟩:=h3.wrs;have f5:wr.ownBlock≠some p:=df g2 h1 (by decide);first
   |have i:=i
    have N:((w.alloc (.cells #[.int .u8 1, .int .i64 1, .slice A n c] 139))).heap[w.heap.size]? =some (.cells #[.int .u8 1, .int .i64 1, .slice A n c] 139 (0,0)):=heap_alloc_new w _
    skip
   |have g:=g
    have N:((w.alloc (.cells #[.int .u8 1, .int .i64 0, .slice A n c] 139))).heap[w.heap.size]? =some (.cells #[.int .u8 1, .int .i64 0, .slice A n c] 139 (0,0)):=heap_alloc_new w _
    skip
   |have b:=b
    have N:((w.alloc (.cells #[.int .u8 2, .int .i64 1, .slice A n c] 139))).heap[w.heap.size]? =some (.cells #[.int .u8 2, .int .i64 1, .slice A n c] 139 (0,0)):=heap_alloc_new w _
    skip
   |have N:((w.alloc (.cells #[.int .u8 2, .int .i64 0, .slice A n c] 139))).heap[w.heap.size]? =some (.cells #[.int .u8 2, .int .i64 0, .slice A n c] 139 (0,0)):=heap_alloc_new w _
  have e9:=ae (show wr.ownBlock≠some w.heap.size fromλe=>absurd (g2.lt _ e).2 (Nat.lt_irrefl _));have HB:=ae hB;have D:=ae d4;have U:=ae (eE g2 (λk e=>hB.block k (g2.lt k e).2));have f9:=ae g1;have g0:=ae g3;have h8:=ae g4;have HN:=ae f5;have HX:=ae N;have T:=ae O;clear h1 h2 h3 hB d4 g1 g2 g3 g4 f5 Q N L O;go_enter Tryz.func130,Tryz.ntmps130;go_upto_region 1 with fail;first
   |have i:=i
    generalize hW:w.alloc (.cells #[.int .u8 1, .int .i64 1, .slice A n c] 139)=W at hc hf Y HB D U HX|-
   |have g:=g
    generalize hW:w.alloc (.cells #[.int .u8 1, .int .i64 0, .slice A n c] 139)=W at hc hf Y HB D U HX|-
   |have b:=b
    generalize hW:w.alloc (.cells #[.int .u8 2, .int .i64 1, .slice A n c] 139)=W at hc hf Y HB D U HX|-
   |generalize hW:w.alloc (.cells #[.int .u8 2, .int .i64 0, .slice A n c] 139)=W at hc hf Y HB D U HX|-
  clear hW;first
   |have i:=i
    have b7:∀(W':World),∀j u,([.int .u8 1, .int .i64 1, .slice A n c]:List Value)[j]? =some u->(W'.alloc (.cells #[.int .u8 1, .int .i64 1, .slice A n c] 139)).cell? ((⟨W'.heap.size,0,none⟩:Addr).add j)=some u:=λW' j u x=>by
     have:=World.cell?_alloc_new W' #[.int .u8 1, .int .i64 1, .slice A n c] 139 j;rw[show(⟨W'.heap.size,0,none⟩:Addr).add j=⟨W'.heap.size,j,none⟩ by simp[Addr.add];intro e;exact e.symm];rw[this];rw[<-x];simp
    have b8:∀u∈([.int .u8 1, .int .i64 1, .slice A n c]:List Value),u.oneCell'=true:=by intro u x;simp at x;rcases x with rfl|rfl|rfl<;>rfl
    skip
   |have g:=g
    have b7:∀(W':World),∀j u,([.int .u8 1, .int .i64 0, .slice A n c]:List Value)[j]? =some u->(W'.alloc (.cells #[.int .u8 1, .int .i64 0, .slice A n c] 139)).cell? ((⟨W'.heap.size,0,none⟩:Addr).add j)=some u:=λW' j u x=>by
     have:=World.cell?_alloc_new W' #[.int .u8 1, .int .i64 0, .slice A n c] 139 j;rw[show(⟨W'.heap.size,0,none⟩:Addr).add j=⟨W'.heap.size,j,none⟩ by simp[Addr.add];intro e;exact e.symm];rw[this];rw[<-x];simp
    have b8:∀u∈([.int .u8 1, .int .i64 0, .slice A n c]:List Value),u.oneCell'=true:=by intro u x;simp at x;rcases x with rfl|rfl|rfl<;>rfl
    skip
   |have b:=b
    have b7:∀(W':World),∀j u,([.int .u8 2, .int .i64 1, .slice A n c]:List Value)[j]? =some u->(W'.alloc (.cells #[.int .u8 2, .int .i64 1, .slice A n c] 139)).cell? ((⟨W'.heap.size,0,none⟩:Addr).add j)=some u:=λW' j u x=>by
     have:=World.cell?_alloc_new W' #[.int .u8 2, .int .i64 1, .slice A n c] 139 j;rw[show(⟨W'.heap.size,0,none⟩:Addr).add j=⟨W'.heap.size,j,none⟩ by simp[Addr.add];intro e;exact e.symm];rw[this];rw[<-x];simp
    have b8:∀u∈([.int .u8 2, .int .i64 1, .slice A n c]:List Value),u.oneCell'=true:=by intro u x;simp at x;rcases x with rfl|rfl|rfl<;>rfl
    skip
   |skip
    have b7:∀(W':World),∀j u,([.int .u8 2, .int .i64 0, .slice A n c]:List Value)[j]? =some u->(W'.alloc (.cells #[.int .u8 2, .int .i64 0, .slice A n c] 139)).cell? ((⟨W'.heap.size,0,none⟩:Addr).add j)=some u:=λW' j u x=>by
     have:=World.cell?_alloc_new W' #[.int .u8 2, .int .i64 0, .slice A n c] 139 j;rw[show(⟨W'.heap.size,0,none⟩:Addr).add j=⟨W'.heap.size,j,none⟩ by simp[Addr.add];intro e;exact e.symm];rw[this];rw[<-x];simp
    have b8:∀u∈([.int .u8 2, .int .i64 0, .slice A n c]:List Value),u.oneCell'=true:=by intro u x;simp at x;rcases x with rfl|rfl|rfl<;>rfl
  have c0:=ae b7;have c4:=ae b8;have c6:=ae S;have g6:=ae (show p≠w.heap.size by omega);have h7:IntKind.i64.wrap ((s.logged:Int)+(n:Int))=(s.logged:Int)+(n:Int):=IntWalk.i64_in _ (by omega);clear b7 b8 S;first
   |have i:=i
    let S2:World->Prop:=λw'=>w'.heap[w.heap.size]? =some (.cells #[.int .u8 1, .int .i64 1, .slice A n c] 139 (0,0))
    skip
   |have g:=g
    let S2:World->Prop:=λw'=>w'.heap[w.heap.size]? =some (.cells #[.int .u8 1, .int .i64 0, .slice A n c] 139 (0,0))
    skip
   |have b:=b
    let S2:World->Prop:=λw'=>w'.heap[w.heap.size]? =some (.cells #[.int .u8 2, .int .i64 1, .slice A n c] 139 (0,0))
    skip
   |let S2:World->Prop:=λw'=>w'.heap[w.heap.size]? =some (.cells #[.int .u8 2, .int .i64 0, .slice A n c] 139 (0,0))
  let S1:World->Prop:=λw'=>w'.heap[p]? =some (.cells (bK s bn bw ch wr b0 b1 b2 b3 d0 d1 d2 d3) 99 (0,0))/\S2 w';first
   |have i:=i
    have a9:∀w':World,S1 w'->(∀j,w'.cell? ⟨p,j,none⟩=(bK s bn bw ch wr b0 b1 b2 b3 d0 d1 d2 d3)[j]?)/\(∀j,w'.cell? ⟨w.heap.size,j,none⟩=(#[.int .u8 1, .int .i64 1, .slice A n c]:Array Value)[j]?):=λw' h=>⟨aj _ p h.1,aj _ w.heap.size h.2⟩;have b4:∀w':World,S2 w'->(∀j,w'.cell? ⟨w.heap.size,j,none⟩=(#[.int .u8 1, .int .i64 1, .slice A n c]:Array Value)[j]?):=λw' h=>aj _ w.heap.size h;have b9:=ae ((((ak W.heap.size W.drew).alloc (aq _) (.cells #[.int .u8 1, .int .i64 1, .slice A n c] 139)).block p (ai D.o).1).trans D.o);have a8:=ae ((((ak W.heap.size W.drew).alloc (aq _) (.cells #[.int .u8 1, .int .i64 1, .slice A n c] 139)).block w.heap.size (ai HX.o).1).trans HX.o)
    skip
   |have g:=g
    have a9:∀w':World,S1 w'->(∀j,w'.cell? ⟨p,j,none⟩=(bK s bn bw ch wr b0 b1 b2 b3 d0 d1 d2 d3)[j]?)/\(∀j,w'.cell? ⟨w.heap.size,j,none⟩=(#[.int .u8 1, .int .i64 0, .slice A n c]:Array Value)[j]?):=λw' h=>⟨aj _ p h.1,aj _ w.heap.size h.2⟩;have b4:∀w':World,S2 w'->(∀j,w'.cell? ⟨w.heap.size,j,none⟩=(#[.int .u8 1, .int .i64 0, .slice A n c]:Array Value)[j]?):=λw' h=>aj _ w.heap.size h;have b9:=ae ((((ak W.heap.size W.drew).alloc (aq _) (.cells #[.int .u8 1, .int .i64 0, .slice A n c] 139)).block p (ai D.o).1).trans D.o);have a8:=ae ((((ak W.heap.size W.drew).alloc (aq _) (.cells #[.int .u8 1, .int .i64 0, .slice A n c] 139)).block w.heap.size (ai HX.o).1).trans HX.o)
    skip
   |have b:=b
    have a9:∀w':World,S1 w'->(∀j,w'.cell? ⟨p,j,none⟩=(bK s bn bw ch wr b0 b1 b2 b3 d0 d1 d2 d3)[j]?)/\(∀j,w'.cell? ⟨w.heap.size,j,none⟩=(#[.int .u8 2, .int .i64 1, .slice A n c]:Array Value)[j]?):=λw' h=>⟨aj _ p h.1,aj _ w.heap.size h.2⟩;have b4:∀w':World,S2 w'->(∀j,w'.cell? ⟨w.heap.size,j,none⟩=(#[.int .u8 2, .int .i64 1, .slice A n c]:Array Value)[j]?):=λw' h=>aj _ w.heap.size h;have b9:=ae ((((ak W.heap.size W.drew).alloc (aq _) (.cells #[.int .u8 2, .int .i64 1, .slice A n c] 139)).block p (ai D.o).1).trans D.o);have a8:=ae ((((ak W.heap.size W.drew).alloc (aq _) (.cells #[.int .u8 2, .int .i64 1, .slice A n c] 139)).block w.heap.size (ai HX.o).1).trans HX.o)
    skip
   |have a9:∀w':World,S1 w'->(∀j,w'.cell? ⟨p,j,none⟩=(bK s bn bw ch wr b0 b1 b2 b3 d0 d1 d2 d3)[j]?)/\(∀j,w'.cell? ⟨w.heap.size,j,none⟩=(#[.int .u8 2, .int .i64 0, .slice A n c]:Array Value)[j]?):=λw' h=>⟨aj _ p h.1,aj _ w.heap.size h.2⟩
    have b4:∀w':World,S2 w'->(∀j,w'.cell? ⟨w.heap.size,j,none⟩=(#[.int .u8 2, .int .i64 0, .slice A n c]:Array Value)[j]?):=λw' h=>aj _ w.heap.size h;have b9:=ae ((((ak W.heap.size W.drew).alloc (aq _) (.cells #[.int .u8 2, .int .i64 0, .slice A n c] 139)).block p (ai D.o).1).trans D.o);have a8:=ae ((((ak W.heap.size W.drew).alloc (aq _) (.cells #[.int .u8 2, .int .i64 0, .slice A n c] 139)).block w.heap.size (ai HX.o).1).trans HX.o)
  have g7:=ae a9;have g8:=ae b4;clear a9 b4 hc hf Y;first
   |have i:=i
    go_cut []from 4 to 24 (λwx=>wF w p M s ⟨1,1,bs⟩ (.slice A n c) wx)
   |have g:=g
    go_cut []from 4 to 24 (λwx=>wF w p M s ⟨1,0,bs⟩ (.slice A n c) wx)
   |have b:=b
    go_cut []from 4 to 24 (λwx=>wF w p M s ⟨2,1,bs⟩ (.slice A n c) wx)
   |go_cut []from 4 to 24 (λwx=>wF w p M s ⟨2,0,bs⟩ (.slice A n c) wx)
  case first=>
   refine my 20 [1,9,10,11,13,14,15,16,17,19] [7,8,19] [(0,false),(2,false),(3,false),(4,false),(5,false),(6,false),(1,false),(9,false),(10,false),(11,false),(12,false),(13,false),(14,false),(15,false),(16,false),(7,true),(8,true),(17,false),(18,false),(19,true)] S1 S2 (by kernel_rfl) (by kernel_rfl) (λc a d v w h=>by cases d<;>exact h) ⟨D.o,HX.o⟩ HX.o ?_;repeat
    first
     |refine ib (v:= ?_) (by rfl) (by rfl) (by rfl) (λw' G=> ?_) (λK l=> ?_)
      rotate_left
      ·obtain⟨e4,c7⟩:=g7.o w' G;clear G;go_simp;try with_reducible rfl
     |refine ic (v:= ?_) (by rfl) (by rfl) (λw' G=> ?_) (λK l=> ?_)
      rotate_left
      ·have c7:=g8.o w' G;clear G;go_simp;try with_reducible rfl
    go_simp;refine l _ ?_;clear l K
   refine gG (by rfl) (λK l=> ?_);go_simp;refine l.out _ _ ⟨b9.o,a8.o⟩ a8.o ?_;clear l K;refine gG (by rfl) (λK l=> ?_);first
    |have i:=i
     refine fG (by rfl) _ _ (by rfl) wr s.writes.length (dE s.writes vs) (by rfl) (U.o.drew.alloc _) ⟨W.drew.heap.size,0,none⟩ 1 1 [.int .u8 1, .int .i64 1, .slice A n c] (by rfl) (by rfl) (c0.o _) c4.o c6.o ?_
    |have g:=g
     refine fG (by rfl) _ _ (by rfl) wr s.writes.length (dE s.writes vs) (by rfl) (U.o.drew.alloc _) ⟨W.drew.heap.size,0,none⟩ 1 1 [.int .u8 1, .int .i64 0, .slice A n c] (by rfl) (by rfl) (c0.o _) c4.o c6.o ?_
    |have b:=b
     refine fG (by rfl) _ _ (by rfl) wr s.writes.length (dE s.writes vs) (by rfl) (U.o.drew.alloc _) ⟨W.drew.heap.size,0,none⟩ 1 1 [.int .u8 2, .int .i64 1, .slice A n c] (by rfl) (by rfl) (c0.o _) c4.o c6.o ?_
    |refine fG (by rfl) _ _ (by rfl) wr s.writes.length (dE s.writes vs) (by rfl) (U.o.drew.alloc _) ⟨W.drew.heap.size,0,none⟩ 1 1 [.int .u8 2, .int .i64 0, .slice A n c] (by rfl) (by rfl) (c0.o _) c4.o c6.o ?_
   intro v1 w1 e5 c8 f3;obtain⟨o,m1,c1,rfl⟩:=dL e5;have E:=ae (gO (W:=W.drew) D.o c8 HN.o);have a6:=ae (gO (W:=W.drew) HX.o c8 e9.o);have g5:=ae e5;have h9:=ae c8;have i0:=ae f3;clear e5 c8 f3;go_simp;refine l.out _ _ ⟨E.o,a6.o⟩ a6.o ?_;clear l K;have h4:=aj _ p E.o;have h5:=aD E.o;repeat
    first|refine ib (v:= ?_) (by rfl) (by rfl) (by rfl) (λw' G=> ?_) (λK l=> ?_)|refine ic (v:= ?_) (by rfl) (by rfl) (λw' G=> ?_) (λK l=> ?_)
    rotate_left
    ·clear G;go_simp;try with_reducible rfl
    go_simp;refine l _ ?_;clear l K
   refine qX (by rfl) (by kernel_rfl) (λK l=> ?_);go_simp;refine l.out _ _ (rh a6.o (by exact g6.o)) ?_;clear l K;show wpList _ _ _ _ _ _;go_wp2_with fail;go_meet;exact Pk H3.o H2.o f6 HM.o f9.o g0.o h8.o HV.o T.o HB.o.drew g5.o h9.o i0.o E.o a6.o e9.o
  case rest=>
   obtain⟨F,hq,hst,N,h6,f4⟩:=hcut;have f8:=HV.o.step hst;obtain⟨bn,bw,ch,wr,b0,b1,b2,b3,d0,d1,d2,d3,q1,q2,I⟩:=hq;obtain⟨t,q,y,rfl⟩:=I.e0.slice3;obtain⟨o,n1,c1,rfl⟩:=I.e1.slice3;obtain⟨z,n2,c2,rfl⟩:=I.e2.aU;obtain⟨B,C,c3,rfl⟩:=I.e3.aU;first
    |have i:=i
     generalize a2:({s with writes:=s.writes++[⟨1,1,bs⟩],logged:=s.logged+bs.length}:J.St)=f at q1 I
    |have g:=g
     generalize a2:({s with writes:=s.writes++[⟨1,0,bs⟩],logged:=s.logged+bs.length}:J.St)=f at q1 I
    |have b:=b
     generalize a2:({s with writes:=s.writes++[⟨2,1,bs⟩],logged:=s.logged+bs.length}:J.St)=f at q1 I
    |generalize a2:({s with writes:=s.writes++[⟨2,0,bs⟩],logged:=s.logged+bs.length}:J.St)=f at q1 I
   have c5:=ae a2;first
    |have i:=i
     skip
    |have g:=g
     skip
    |skip
     first
      |have b:=b
       have d8:=ae (show f.disk.h1.length<=40000000 by rw[<-a2];exact a7)
       skip
      |have d8:=ae (show f.disk.h0.length<=40000000 by rw[<-a2];exact a7)
     clear a7
   have Q1:=ae q1;have Q2:=ae q2;have Q3:=ae I;have g9:=ae hst;have a5:=ae N;have i1:=ae f8;have e8:=ae f4;have e4:=aj wc p q1;have c7:=aj wc w.heap.size N;clear a2 q1 q2 I hst N f8 h6 f4;first
    |have i:=i
     skip
    |have g:=g
     skip
    |obtain⟨H,c',eA,i2,hy⟩:=i1.o.by
     injection eA with e1 e2 e3;subst e1 e3;obtain⟨ba,oa,rfl,_⟩:=hy.2 (by have:=T.o;omega);have f1:=ae (show By wc.drew F (some ⟨ba,oa,none⟩) n bs from by have V:By wc F (some ⟨ba,oa,none⟩) bs.length bs:=hy;rw[T.o]at V;exact V);have e7:=ae (show n<=c by have:=T.o;omega);first
      |have b:=b
       obtain⟨H,c',eA,f2,d6⟩:=Q3.o.e1.by
       skip
      |obtain⟨H,c',eA,f2,d6⟩:=Q3.o.e0.by
     injection eA with e1 e2h e3;subst e1 e3;first
      |have b:=b
       have d9:=ae (show By wc.drew F o n1 f.disk.h1 from by have V:By wc F o f.disk.h1.length f.disk.h1:=d6;rw[<-e2h]at V;exact V);have d7:=ae (show n1<=c1 by omega);have e0:=ae (show n1<=40000000 by have:=d8.o;omega)
       skip
      |have d9:=ae (show By wc.drew F t q f.disk.h0 from by have V:By wc F t f.disk.h0.length f.disk.h0:=d6;rw[<-e2h]at V;exact V)
       have d7:=ae (show q<=y by omega);have e0:=ae (show q<=40000000 by have:=d8.o;omega)
     clear hy d6 e2 e2h i2 f2
   go_upto_region 4 with fail;clear e4 c7;first
    |have i:=i
     refine bh 10 [(0,false),(1,false),(2,false),(3,false),(4,false),(5,false),(6,false),(7,false),(8,false),(9,true)] (λw'=>w'.heap[p]? =some (.cells (bK f bn bw ch wr b0 b1 b2 b3 (.slice t q y) (.slice o n1 c1) (.slice z n2 c2) (.slice B C c3)) 99 (0,0))/\w'.heap[w.heap.size]? =some (.cells #[.int .u8 1, .int .i64 1, .slice A n c] 139 (0,0))) (by kernel_rfl) (by kernel_rfl) (λc a d v w h=>by cases d<;>exact h) ⟨Q1.o,a5.o⟩ ?_
    |have g:=g
     refine bh 10 [(0,false),(1,false),(2,false),(3,false),(4,false),(5,false),(6,false),(7,false),(8,false),(9,true)] (λw'=>w'.heap[p]? =some (.cells (bK f bn bw ch wr b0 b1 b2 b3 (.slice t q y) (.slice o n1 c1) (.slice z n2 c2) (.slice B C c3)) 99 (0,0))/\w'.heap[w.heap.size]? =some (.cells #[.int .u8 1, .int .i64 0, .slice A n c] 139 (0,0))) (by kernel_rfl) (by kernel_rfl) (λc a d v w h=>by cases d<;>exact h) ⟨Q1.o,a5.o⟩ ?_
    |have b:=b
     refine bh 10 [(0,false),(1,false),(2,false),(3,false),(4,false),(5,false),(6,false),(7,false),(8,false),(9,true)] (λw'=>w'.heap[p]? =some (.cells (bK f bn bw ch wr b0 b1 b2 b3 (.slice t q y) (.slice o n1 c1) (.slice z n2 c2) (.slice B C c3)) 99 (0,0))/\w'.heap[w.heap.size]? =some (.cells #[.int .u8 2, .int .i64 1, .slice (some ⟨ba,oa,none⟩) n c] 139 (0,0))) (by kernel_rfl) (by kernel_rfl) (λc a d v w h=>by cases d<;>exact h) ⟨Q1.o,a5.o⟩ ?_
    |refine bh 10 [(0,false),(1,false),(2,false),(3,false),(4,false),(5,false),(6,false),(7,false),(8,false),(9,true)] (λw'=>w'.heap[p]? =some (.cells (bK f bn bw ch wr b0 b1 b2 b3 (.slice t q y) (.slice o n1 c1) (.slice z n2 c2) (.slice B C c3)) 99 (0,0))/\w'.heap[w.heap.size]? =some (.cells #[.int .u8 2, .int .i64 0, .slice (some ⟨ba,oa,none⟩) n c] 139 (0,0))) (by kernel_rfl) (by kernel_rfl) (λc a d v w h=>by cases d<;>exact h) ⟨Q1.o,a5.o⟩ ?_
   repeat
    refine bS (v:= ?_) (by rfl) (by rfl) (λw' G=> ?_) (λK l=> ?_);rotate_left
    ·have e4:=aj w' p G.1;have c7:=aj w' w.heap.size G.2;clear G;go_simp;try with_reducible rfl
    go_simp;refine l _ ?_;clear l K
   refine bG (by rfl) (λK l=> ?_);go_simp;first
    |have i:=i
     refine(tT t o z B A q n1 n2 C n y c1 c2 c3 c n wc.drew).mono ?_;rintro e w5 ⟨rfl,Z⟩
    |have g:=g
     refine(tS t o z B A q n1 n2 C n y c1 c2 c3 c n wc.drew).mono ?_;rintro e w5 ⟨rfl,Z⟩
    |skip
     first
      |have b:=b
       refine(wy t o z B q n1 n2 C n y c1 c2 c3 c ba oa n wc.drew F F f.disk.h1 bs d9.o d7.o f1.o (aq _) e7.o e0.o b6).mono ?_
      |refine(wu t o z B q n1 n2 C n y c1 c2 c3 c ba oa n wc.drew F F f.disk.h0 bs d9.o d7.o f1.o (aq _) e7.o e0.o b6).mono ?_
     rintro e w5 ⟨H,n',c',rfl,e6,Z⟩
   have Z:Below wc.heap.size wc w5:=lM Z;first
    |have i:=i
     skip
    |have g:=g
     skip
    |skip
     first
      |have b:=b
       have c9:Sl w5 F (.slice H n' c') (bs.take n++f.disk.h1.drop n):=wI (show w5.ownsRow wc.heap.size _ _ _ _ _ from e6) e8.o
       skip
      |have c9:Sl w5 F (.slice H n' c') (bs.take n++f.disk.h0.drop n):=wI (show w5.ownsRow wc.heap.size _ _ _ _ _ from e6) e8.o
     rw[List.take_of_length_le (by rw[T.o];exact Nat.le_refl _)]at c9;have f0:=ae c9;clear e6 c9
   have E:=ae ((Z.block p (ai Q1.o).1).trans Q1.o);have a6:=ae ((Z.block w.heap.size (ai a5.o).1).trans a5.o);have a4:=ae Z;clear Z;refine l.out _ _ ⟨E.o,a6.o⟩ ?_;clear l K;have h4:=aj _ p E.o;have h5:=aD E.o;show wpList _ _ _ _ _ _;go_wp2_with fail;go_end0;have P:=Q3.o.below a4.o;first
    |have i:=i
     have hT:=Q3.o.disk (m:={f.disk with a1:=[]}) (d0':= .slice t q y) (d1':= .slice o n1 c1) (d2':= .slice z n2 c2) (d3':= .slice none 0 0) a4.o (P.e0) (P.e1) (P.e2) (.inr bT.dV) (λk e2 e3=>by cases e3);have b5:=ay (ay (ay (ay (World.grownBy.refl w5 (some p)) 15 (.slice t q y)) 16 (.slice o n1 c1)) 17 (.slice z n2 c2)) 18 (.slice none 0 0);have d5:=aB (aB (aB (aB E.o 15 (.slice t q y)) 16 (.slice o n1 c1)) 17 (.slice z n2 c2)) 18 (.slice none 0 0)
     skip
    |have g:=g
     have hT:=Q3.o.disk (m:={f.disk with a0:=[]}) (d0':= .slice t q y) (d1':= .slice o n1 c1) (d2':= .slice none 0 0) (d3':= .slice B C c3) a4.o (P.e0) (P.e1) (.inr bT.dV) (P.e3) (λk e2 e3=>by cases e2);have b5:=ay (ay (ay (ay (World.grownBy.refl w5 (some p)) 15 (.slice t q y)) 16 (.slice o n1 c1)) 17 (.slice none 0 0)) 18 (.slice B C c3);have d5:=aB (aB (aB (aB E.o 15 (.slice t q y)) 16 (.slice o n1 c1)) 17 (.slice none 0 0)) 18 (.slice B C c3)
     skip
    |have b:=b
     have hT:=Q3.o.disk (m:={f.disk with h1:=bs++f.disk.h1.drop n}) (d0':= .slice t q y) (d1':= .slice H n' c') (d2':= .slice z n2 c2) (d3':= .slice B C c3) a4.o (P.e0) (f0.o) (P.e2) (P.e3) P.dd;have b5:=ay (ay (ay (ay (World.grownBy.refl w5 (some p)) 15 (.slice t q y)) 16 (.slice H n' c')) 17 (.slice z n2 c2)) 18 (.slice B C c3);have d5:=aB (aB (aB (aB E.o 15 (.slice t q y)) 16 (.slice H n' c')) 17 (.slice z n2 c2)) 18 (.slice B C c3)
     skip
    |have hT:=Q3.o.disk (m:={f.disk with h0:=bs++f.disk.h0.drop n}) (d0':= .slice H n' c') (d1':= .slice o n1 c1) (d2':= .slice z n2 c2) (d3':= .slice B C c3) a4.o (f0.o) (P.e1) (P.e2) (P.e3) P.dd
     have b5:=ay (ay (ay (ay (World.grownBy.refl w5 (some p)) 15 (.slice H n' c')) 16 (.slice o n1 c1)) 17 (.slice z n2 c2)) 18 (.slice B C c3);have d5:=aB (aB (aB (aB E.o 15 (.slice H n' c')) 16 (.slice o n1 c1)) 17 (.slice z n2 c2)) 18 (.slice B C c3)
   have f7:bs.take n=bs:=List.take_of_length_le (by rw[T.o];exact aq _);first
    |have i:=i
     have hw:J.write s ⟨1,1,bs⟩={f with disk:={f.disk with a1:=[]}}:=by rw[<-c5.o];simp[J.write,J.done,J.cS.bC]
     skip
    |have g:=g
     have hw:J.write s ⟨1,0,bs⟩={f with disk:={f.disk with a0:=[]}}:=by rw[<-c5.o];simp[J.write,J.done,J.cS.bC]
     skip
    |have b:=b
     have hw:J.write s ⟨2,1,bs⟩={f with disk:={f.disk with h1:=bs++f.disk.h1.drop n}}:=by rw[<-c5.o];simp[J.write,J.done,J.cS.qE,J.cS.head,T.o,f7]
     skip
    |have hw:J.write s ⟨2,0,bs⟩={f with disk:={f.disk with h0:=bs++f.disk.h0.drop n}}:=by rw[<-c5.o];simp[J.write,J.done,J.cS.qE,J.cS.head,T.o,f7]
   rw[hw];exact⟨⟨_,rfl⟩,F,⟨bn,bw,ch,wr,b0,b1,b2,b3,_,_,_,_,d5,Q2.o,hT.own E.o Q2.o b5⟩,g9.o.trans (((Step.aC a4.o).trans (Step.bg b5 (λk e _=>by cases e;exact Q2.o))))⟩
abbrev Dv:= @JB.1
abbrev Dw:= @JB.2.1
abbrev AG:= @JB.2.2.1
abbrev AH:= @JB.2.2.2
end Go.Proofs.YtipljcmmokaokaaGreat
