import Derived.Test.YtipljcmmokaokaaGreatQ17
set_option linter.unusedVariables false
set_option linter.unusedSimpArgs false
set_option maxHeartbeats 40000000
namespace Go.Proofs.YtipljcmmokaokaaGreat
open Go.RowKit Go.Lib Go.Maps Go.WideMaps Go.Sort
set_option maxRecDepth 100000
section
variable {w0 : World} {p pf g c size ct u : Nat} {nm : J.B} {ks : List X.Ky} {rows : List X.Row} {f : Fv} {w w' : World} {s s1 s2 : J.St} {fs : List (Nat × Obj)} {ok : Obj}
theorem ML (h0:w.heap[pf]? =some (ax p nm size g ks.length c f)) (b:X.bP [52,57] [3] f.mode≠[48,48]) (A:Option Addr) (m cb:Nat):
  Calls Tryz.prog 26 #[.pointer (some ⟨pf,0,none⟩), .slice A m cb] w λe w'=>e= .returned (.string ⟨(X.bP [52,57] [3] f.mode).toArray⟩)/\Below w.heap.size w w':=by
 have a:=ae (bQ h0 [52,57] [3] 1 #[.int .u8 3] rfl rfl (by decide) w.heap.size rfl);have i:=uh b;have d:=ae ((ak _ w).alloc (aq _) (.cells #[.int .u8 3] 32));generalize(⟨(X.bP [52,57] [3] f.mode).toArray⟩:ByteArray)=j at a i|-;clear h0 b;go_enter Tryz.func26,Tryz.ntmps26;go_wp2_with fail;refine a.o.mono ?_;rintro e W1 ⟨rfl,h⟩;subst h;clear a;go_wp2;go_ret;exact⟨rfl,d.o⟩
theorem Iy:(∀{w0:World} {p pf g c size ct:Nat} {nm:J.B} {ks:List X.Ky} {rows:List X.Row} {f:Fv} {w:World} {s:J.St} {fs:List (Nat×Obj)} {ok:Obj} (h:At w0 p ((pf,ax p nm size g ks.length c f)::fs) s w) (o:∀x∈fs,x.1≠pf) (m:(g,ok)∈fs) (i:bR ok ks) (r:J.Two s) (a:XF nm size ks rows ct s.now) (b:J.B) (A:Option Addr) (cb:Nat) (D:Src w0 p fs (.slice A b.length cb) b) (l:X.bt ks size b=true) (q:X.bP [52,57] [3] f.mode=[48,48]) (C:f.ord=true) (y:f.read=true) (K:X.val ks 0 b≠f.last),Calls Tryz.prog 26 #[.pointer (some ⟨pf,0,none⟩), .slice A b.length cb] w λe w'=>e= .returned (.string ⟨#[50,49]⟩)/\At w0 p ((pf,ax p nm size g ks.length c {f with read:=false})::fs) s w')/\(∀{w0:World} {p pf g c size ct:Nat} {nm:J.B} {ks:List X.Ky} {rows:List X.Row} {f:Fv} {w:World} {s:J.St} {fs:List (Nat×Obj)} {ok:Obj} (h:At w0 p ((pf,ax p nm size g ks.length c f)::fs) s w) (o:∀x∈fs,x.1≠pf) (m:(g,ok)∈fs) (i:bR ok ks) (r:J.Two s) (a:XF nm size ks rows ct s.now) (b:J.B) (A:Option Addr) (cb:Nat) (D:Src w0 p fs (.slice A b.length cb) b) (l:X.bt ks size b=true) (q:X.bP [52,57] [3] f.mode=[48,48]) (C:f.ord=true) (y:f.read=false),Calls Tryz.prog 26 #[.pointer (some ⟨pf,0,none⟩), .slice A b.length cb] w λe w'=>e= .returned (.string ⟨#[52,51]⟩)/\At w0 p ((pf,ax p nm size g ks.length c {f with read:=false})::fs) s w')/\(∀{w0:World} {p pf g c size ct:Nat} {nm:J.B} {ks:List X.Ky} {rows:List X.Row} {f:Fv} {w:World} {s:J.St} {fs:List (Nat×Obj)} {ok:Obj} (h:At w0 p ((pf,ax p nm size g ks.length c f)::fs) s w) (o:∀x∈fs,x.1≠pf) (m:(g,ok)∈fs) (i:bR ok ks) (r:J.Two s) (a:XF nm size ks rows ct s.now) (b:J.B) (A:Option Addr) (cb:Nat) (q:X.bP [52,57] [3] f.mode=[48,48]) (l:X.bt ks size b=false),Calls Tryz.prog 26 #[.pointer (some ⟨pf,0,none⟩), .slice A b.length cb] w λe w'=>e= .returned (.string ⟨#[52,52]⟩)/\At w0 p ((pf,ax p nm size g ks.length c {f with read:=false})::fs) s w'):=by
 refine⟨?z0, ?z1, ?z2⟩
 case' z0=>intro w0 p pf g c size ct nm ks rows f w s fs ok h o m i r a b A cb D l q C y K
 case' z1=>(intro w0 p pf g c size ct nm ks rows f w s fs ok h o m i r a b A cb D l q C y;have u:=trivial)
 case' z2=>(intro w0 p pf g c size ct nm ks rows f w s fs ok h o m i r a b A cb q l;have d:=trivial)
 all_goals
  have T:=a.ks.one;have G:=ae (λW (hh:At w0 p ((pf,ax p nm size g ks.length c {f with read:=false})::fs) s W)=>nA nm size g c ks A b.length cb W (i.2 W g (hh.get (ag _ m))) (by omega) (λk hk=>by have h1:=a.ks.key k hk;have h2:=a.ks.size;omega) b rfl);rw[l]at G;have I:=(ai (h.get af)).1;have I:pf<w.heap.size:=I;have F:=ae (bQ (h.get af) [52,57] [3] 1 #[.int .u8 3] rfl rfl (by decide) w.heap.size rfl);rw[q]at F;have O:=ae (h.below ((ak _ w).alloc (aq _) (.cells #[.int .u8 3] 32)));first
   |have d:=d
    skip
   |have z:=ae (λW (hh:At w0 p ((pf,ax p nm size g ks.length c {f with read:=false})::fs) s W)=>cG (X.aH ks 0) (.slice A b.length cb) b bE W (D _ _ _ fT hh) ((X.aS.1 l).2 _ (X.aY T.1)) (by have h1:=(X.aS.1 l).1;have h2:=a.ks.size;omega))
    have U:(X.aH ks 0).val b=X.val ks 0 b:=rfl;rw[U]at z;clear U;have Q:=ae (λW (hh:At w0 p ((pf,ax p nm size g ks.length c {f with read:=false})::fs) s W)=>i.2 W g (hh.get (ag _ m)));have v:0<ks.length:=(by omega);have Y:=ae v;clear v;first
     |have u:=u
      generalize(⟨(X.val ks 0 b).toArray⟩:ByteArray)=vb at z
     |have L:=dt (X.val ks 0 b) f.last
      generalize a3:(⟨(X.val ks 0 b).toArray⟩:ByteArray)=vb at z L;generalize S:(⟨f.last.toArray⟩:ByteArray)=lb at L;have Z:=ae S
    have a0:=ae y;first
     |have u:=u
      clear y
     |clear a3 S y
      rw[show decide (X.val ks 0 b=f.last)=false by simpa using K]at L;clear K
  clear h q;go_enter Tryz.func26,Tryz.ntmps26;go_wp2_with fail;refine F.o.mono ?_;rintro e W1 ⟨rfl,a1⟩;subst a1;clear F;refine aL (λX=>At w0 p ((pf,ax p nm size g ks.length c f)::fs) s X/\Below w.heap.size w X) ⟨O.o,(ak _ w).alloc (aq _) _⟩ ?_;rintro W ⟨ha,a2⟩;clear O;have h1:W.heap[pf]? =some (ax p nm size g ks.length c f):=ha.get af;have hz:=aD h1;have n:=aj W pf h1;first
   |have d:=d
    skip
   |rw[a0.o]at n
  have H:=ae (cR (f':={f with read:=false}) ha o r (ay (World.grownBy.refl W (some pf)) 11 (.bool false)) (aB h1 11 (.bool false)));clear ha a2 o m i r a h1 T I;go_wp2_with fail;refine(G.o _ H.o).mono ?_;rintro e W3 ⟨rfl,B⟩;have t:=ae (H.o.below B);clear B H G n hz;first
   |have d:=d
    skip
   |have n:=aj W3 pf (t.o.get af)
    have v:=Y.o;have E:=Q.o _ t.o;have V:=E.at_ v;have M:=E.len v;have N:=E.dup v;rw[Nat.zero_mul]at V M N;rw[Nat.zero_add]at M N;have a4:(0:Int)<(ks.length:Nat):=(by omega);clear E Q;go_wp2_with fail;refine(z.o _ t.o).mono ?_;rintro e W4 ⟨rfl,B⟩;have P:=ae (t.o.below B);clear B z t n V M N;have n:=aj W4 pf (P.o.get af);first
     |have u:=u
      rw[C]at n
     |rw[C,Z.o]at n
  go_wp2;go_ret;first
   |have d:=d
    exact⟨rfl,t.o⟩
    skip
   |exact⟨rfl,P.o⟩
abbrev Iz:= @Iy.1
abbrev EC:= @Iy.2.1
abbrev MM:= @Iy.2.2
end
section
variable {w0 w w' : World} {p : Nat} {s : J.St} {fs : List (Nat × Obj)} {F : Nat × Obj} {v : Value} {o : X.Row}
theorem At.old (h:At w0 p (F::fs) s w) (l:Below w.heap.size w w') (y:bT w' (· <w.heap.size) v o.b) (h0:o.b≠[]):
  ∃x:Nat×Obj,At w0 p (F::x::fs) s w'/\w.heap.size<=x.1/\tu w0 p (x::fs) v (some o)/\∃b a,v= .slice (some ⟨b,a,none⟩) o.b.length o.b.length:=by
 rcases y with⟨_,e⟩|⟨b,a,rfl,h1,⟨A,cur,z,d⟩,r,g⟩
 ·exact absurd e h0
 ·have f:w.heap.size<=b:=Nat.le_of_not_lt r;refine⟨(b, .cells cur 5 (0,0)), ?_,f,⟨⟨b,a,_,rfl⟩,λgs t w1 n ha=> ?_⟩,b,a,rfl⟩
  ·refine(h.add l (gs:=[(b, .cells cur 5 (0,0))]) (λx c=> ?_)).less (λx c=> ?_)
   ·simp only[List.mem_singleton]at c;subst c;exact⟨f,d⟩
   ·simp only[List.mem_cons,List.mem_append,List.not_mem_nil,or_false]at c|-;rcases c with h|h|h
    ·exact .inr (.inl h)
    ·exact .inl h
    ·exact .inr (.inr h)
  ·have k:w1.heap[b]? =some (.cells cur 5 (0,0)):=ha.get (n _ af);have i:b<w1.heap.size:=(ai k).1;refine .inr ⟨b,a,_,rfl,aq _,i,g.1,λu=> ?_⟩;obtain⟨b',o',e,_,_,m⟩:=g.2 u;injection e with e;injection e with e1 e2 e3;subst e1 e2;exact⟨b,a,rfl,i,λh=>h,λj q=>(World.cell?_of_block (k.trans d.symm)).trans (m j q)⟩
end
section
variable {w0 : World} {p pf g c size ct u : Nat} {nm : J.B} {ks : List X.Ky} {rows : List X.Row} {f : Fv} {w w' : World} {s s1 s2 : J.St} {fs : List (Nat × Obj)} {ok : Obj}
theorem Ry:(∀{w0:World} {p pf g c size ct u:Nat} {nm:J.B} {ks:List X.Ky} {rows:List X.Row} {f:Fv} {w:World} {s:J.St} {fs:List (Nat×Obj)} {ok:Obj} (h:At w0 p ((pf,ax p nm size g ks.length c f)::fs) s w) (D:∀x∈fs,x.1≠pf) (z:(g,ok)∈fs) (t:bR ok ks) (H:ks.length<=c) (N:J.Two s) (a:XF nm size ks rows ct s.now) (b:J.B) (A:Option Addr) (cb:Nat) (C:Src w0 p fs (.slice A b.length cb) b) (m:X.bt ks size b=true) (M:X.bP [52,57] [3] f.mode=[48,48]) (F:f.ord=true->f.read=true/\X.val ks 0 b=f.last) {o:X.Row} (E:rows.find? (λr=>decide (X.val ks 0 r.b=X.val ks 0 b))=some o) (I:X.eu (X.bH ks rows b (some o) (ks.length - 1))≠[50,50]) (c7:X.mL u s.now s) (hu:u<=340) (c5:X.aQ ks size (ct+1) (X.gw ks ct rows b (some o))) (c6:rows.length<=u),Calls Tryz.prog 26 #[.pointer (some ⟨pf,0,none⟩), .slice A b.length cb] w λe w'=>e= .returned (.string ⟨(X.eu (X.bH ks rows b (some o) (ks.length - 1))).toArray⟩)/\∃s1 now,At w0 p ((pf,ax p nm size g ks.length c {f with read:=false})::fs) (J.aK s1) w'/\X.Tx u s s1 now/\X.iF nm (X.attr size ks) ks (X.gw ks ct rows b (some o)) (ct+1) now)/\(∀{w0:World} {p pf g c size ct:Nat} {nm:J.B} {ks:List X.Ky} {rows:List X.Row} {f:Fv} {w:World} {s:J.St} {fs:List (Nat×Obj)} {ok:Obj} (h:At w0 p ((pf,ax p nm size g ks.length c f)::fs) s w) (D:∀x∈fs,x.1≠pf) (z:(g,ok)∈fs) (t:bR ok ks) (H:ks.length<=c) (N:J.Two s) (a:XF nm size ks rows ct s.now) (b:J.B) (A:Option Addr) (cb:Nat) (C:Src w0 p fs (.slice A b.length cb) b) (m:X.bt ks size b=true) (M:X.bP [52,57] [3] f.mode=[48,48]) (F:f.ord=true->f.read=true/\X.val ks 0 b=f.last) {o:X.Row} (E:rows.find? (λr=>decide (X.val ks 0 r.b=X.val ks 0 b))=some o) (I:X.eu (X.bH ks rows b (some o) (ks.length - 1))=[50,50]),Calls Tryz.prog 26 #[.pointer (some ⟨pf,0,none⟩), .slice A b.length cb] w λe w'=>e= .returned (.string ⟨#[50,50]⟩)/\At w0 p ((pf,ax p nm size g ks.length c {f with read:=false})::fs) s w')/\(∀{w0:World} {p pf g c size ct:Nat} {nm:J.B} {ks:List X.Ky} {rows:List X.Row} {f:Fv} {w:World} {s:J.St} {fs:List (Nat×Obj)} {ok:Obj} (h:At w0 p ((pf,ax p nm size g ks.length c f)::fs) s w) (D:∀x∈fs,x.1≠pf) (z:(g,ok)∈fs) (t:bR ok ks) (H:ks.length<=c) (N:J.Two s) (a:XF nm size ks rows ct s.now) (b:J.B) (A:Option Addr) (cb:Nat) (C:Src w0 p fs (.slice A b.length cb) b) (m:X.bt ks size b=true) (M:X.bP [52,57] [3] f.mode=[48,48]) (F:f.ord=true->f.read=true/\X.val ks 0 b=f.last) (E:rows.find? (λr=>decide (X.val ks 0 r.b=X.val ks 0 b))=none),Calls Tryz.prog 26 #[.pointer (some ⟨pf,0,none⟩), .slice A b.length cb] w λe w'=>e= .returned (.string ⟨#[50,51]⟩)/\At w0 p ((pf,ax p nm size g ks.length c {f with read:=false})::fs) s w'):=by
 refine⟨?z0, ?z1, ?z2⟩
 case' z0=>intro w0 p pf g c size ct u nm ks rows f w s fs ok h D z t H N a b A cb C m M F o E I c7 hu c5 c6
 case' z1=>(intro w0 p pf g c size ct nm ks rows f w s fs ok h D z t H N a b A cb C m M F o E I;have P:=trivial)
 case' z2=>(intro w0 p pf g c size ct nm ks rows f w s fs ok h D z t H N a b A cb C m M F E;have q:=trivial)
 all_goals
  have G:=a.ks.one;have b0:=ae (λW (hh:At w0 p ((pf,ax p nm size g ks.length c {f with read:=false})::fs) s W)=>nA nm size g c ks A b.length cb W (t.2 W g (hh.get (ag _ z))) (by omega) (λk hk=>by have h1:=a.ks.key k hk;have Z:=a.ks.size;omega) b rfl);rw[m]at b0;have b4:=(ai (h.get af)).1;have b4:pf<w.heap.size:=b4;have a9:=ae (bQ (h.get af) [52,57] [3] 1 #[.int .u8 3] rfl rfl (by decide) w.heap.size rfl);rw[M]at a9;have HA:=ae (h.below ((ak _ w).alloc (aq _) (.cells #[.int .u8 3] 32)));have a4:=ae (λW (hh:At w0 p ((pf,ax p nm size g ks.length c {f with read:=false})::fs) s W)=>cG (X.aH ks 0) (.slice A b.length cb) b bE W (C _ _ _ fT hh) ((X.aS.1 m).2 _ (X.aY G.1)) (by have h1:=(X.aS.1 m).1;have Z:=a.ks.size;omega));have d0:(X.aH ks 0).val b=X.val ks 0 b:=rfl;rw[d0]at a4;clear d0;have b7:=ae (λW (hh:At w0 p ((pf,ax p nm size g ks.length c {f with read:=false})::fs) s W)=>t.2 W g (hh.get (ag _ z)));have Q:0<ks.length:=(by omega);have d4:=ae Q;clear Q;have a3:=ae (λW=>dM nm size (some ⟨g,0,none⟩) ks.length c 0 0 (X.val ks 0 b) (by decide) (by decide) (by have:=a.nm;omega) (by have h1:=X.bc m G.1;have Z:=a.lens G.1;omega) W);have b3:=a.con.kJ a.rows (X.val ks 0 b);rw[E]at b3;have V:=ae (λW (hh:At w0 p ((pf,ax p nm size g ks.length c {f with read:=false})::fs) s W)=>fF hh (X.cy nm 0 (X.val ks 0 b) 0) (by have h1:=X.bc m G.1;have Z:=a.lens G.1;have h3:=X.cZ nm 0 (X.val ks 0 b) 0;have h4:=a.nm;omega) (λl hl=>by have:=a.len _ _ hl;omega));rw[b3]at V;have hq:=dt (X.val ks 0 b) f.last;generalize c9:(⟨(X.val ks 0 b).toArray⟩:ByteArray)=vb at a4 a3 hq;generalize c4:(⟨f.last.toArray⟩:ByteArray)=lb at hq;generalize(⟨(X.cy nm 0 (X.val ks 0 b) 0).toArray⟩:ByteArray)=ee at a3 V;have d5:=ae c4;have e4:=ae c9;have d2:aa (f.ord=false\/f.ord=true/\f.read=true/\(vb.toList==lb.toList)=true):=ae (by
   cases S:f.ord with
    |false=>exact .inl rfl
    |true=>exact .inr ⟨rfl,(F S).1,by rw[hq];simpa using (F S).2⟩)
  clear c9 c4 hq F b3;first
   |have q:=q
    skip
   |have S:=(X.bI E).1
    have a6:=a.rows.fit o S;have b5:o.b≠[]:=λe=>by
     have h1:=(X.aS.1 a6).2 _ (X.aY G.1);have Z:=(a.lens G.1).1;have h3:X.lens ks 0=(X.aH ks 0).len:=rfl;rw[e,List.length_nil]at h1;omega
    have b8:=ae b5;have a2:=ae (λW (x:Nat×Obj) bo oo (L:tu w0 p (x::fs) (.slice (some ⟨bo,oo,none⟩) o.b.length o.b.length) (some o)) (hh:At w0 p ((pf,ax p nm size g ks.length c {f with read:=false})::x::fs) s W)=>zH (old:=some o) hh af (ag _ (ag _ z)) t H a (C.more (λy i=>ag _ (ag _ i))) m (λo' e=>by injection e with e;subst e;exact a6) ⟨L.1,L.2.more fT⟩);first
     |have P:=P
      have c2:(⟨(X.eu (X.bH ks rows b (some o) (ks.length - 1))).toArray⟩:ByteArray)=⟨#[50,50]⟩:=(by rw[I]);rw[c2]at a2;clear I c2 S a6 b5
     |have e1:=uh I
      have c0:=ae (λW (x:Nat×Obj) bo oo (L:tu w0 p (x::fs) (.slice (some ⟨bo,oo,none⟩) o.b.length o.b.length) (some o)) (hxp:x.1≠pf) (hh:At w0 p ((pf,ax p nm size g ks.length c {f with read:=false})::x::fs) s W)=>Et hh (λy i=>by rcases au i with rfl|i;exact hxp;exact D y i) (ag _ z) t H A cb _ _ _ c7 hu a (C.more fT) m E L c5 c6);generalize(⟨(X.eu (X.bH ks rows b (some o) (ks.length - 1))).toArray⟩:ByteArray)=cs at a2 e1|-;clear I S a6 b5
  clear h M;go_enter Tryz.func26,Tryz.ntmps26;go_wp2_with fail;refine a9.o.mono ?_;rintro e W1 ⟨rfl,d8⟩;subst d8;clear a9;refine aL (λX=>At w0 p ((pf,ax p nm size g ks.length c f)::fs) s X/\Below w.heap.size w X) ⟨HA.o,(ak _ w).alloc (aq _) _⟩ ?_;rintro W ⟨ha,d9⟩;clear HA;have h1:W.heap[pf]? =some (ax p nm size g ks.length c f):=ha.get af;have hz:=aD h1;have B:=aj W pf h1;have HG:=ae (cR (f':={f with read:=false}) ha D N (ay (World.grownBy.refl W (some pf)) 11 (.bool false)) (aB h1 11 (.bool false)));clear ha d9 D z t N a h1 G b4;go_wp2_with fail;refine(b0.o _ HG.o).mono ?_;rintro e W3 ⟨rfl,n⟩;have U:=ae (HG.o.below n);clear n HG b0 B hz;have B:=aj W3 pf (U.o.get af);have Q:=d4.o;have a5:=b7.o _ U.o;have k1:=a5.at_ Q;have k2:=a5.len Q;have k3:=a5.dup Q;rw[Nat.zero_mul]at k1 k2 k3;rw[Nat.zero_add]at k2 k3;have e8:(0:Int)<(ks.length:Nat):=(by omega);clear a5 b7;go_wp2_with fail;refine(a4.o _ U.o).mono ?_;rintro e W4 ⟨rfl,n⟩;have a0:=ae (U.o.below n);clear n a4 U B k1 k2 k3;have B:=aj W4 pf (a0.o.get af);rw[d5.o]at B;rcases d2.o with h1|⟨h1,Z,h3⟩
  have e7:=trivial
  all_goals
   rw[h1]at B;go_wp2_with fail;clear B;refine aJ 15 (.rd 0 (.rd 1 (.rd 2 (.rd 3 (.rd 4 (.rd 5 (.rd 6 (.rd 7 (.rd 8 (.wr 9 (.wr 10 (.rd 11 (.rd 12 (.rd 13 (.wr 14 .fin))))))))))))))) (λw'=>At w0 p ((pf,ax p nm size g ks.length c {f with read:=false})::fs) s w') (a0.o.below ((ak _ _).drew)) ?_;repeat
    refine aA (v:= ?_) (λw' hS=> ?_) (λK d=> ?_);rotate_left
    ·have B:=aj w' pf (hS.get (af:(pf,ax p nm size g ks.length c {f with read:=false})∈(pf,ax p nm size g ks.length c {f with read:=false})::fs));clear hS;go_simp;try with_reducible rfl
    go_simp;refine d _ ?_;clear d K
   refine az (λK d=> ?_);go_simp;refine(a3.o _).mono ?_;rintro e W6 ⟨rfl,n⟩;have O:=ae (a0.o.below (((ak _ _).drew).trans n));clear n a3 a0;refine d.out _ _ (λw'=>At w0 p ((pf,ax p nm size g ks.length c {f with read:=false})::fs) s w') (λ_ h=>h) O.o ?_;clear d K;refine az (λK d=> ?_);go_simp;refine(V.o _ O.o).mono ?_;rintro e W7 ⟨v,rfl,T,b1,b2⟩;first
    |have q:=q
     skip
    |have T:bT W7 (· <W6.heap.size) v o.b:=T
     obtain⟨x,h8,e2,L,bo,oo,hv⟩:=O.o.old b2 T b8.o;have e0:pf<W6.heap.size:=O.o.lt af;have d7:=ae (show x.1≠pf by omega);subst hv
   have a1:=ae b1;first
    |have q:=q
     have e3:=ae T;clear b1 T b2 V O
    |have b6:=ae h8
     have b9:=ae L;clear b1 T b2 V O h8 e2 L e0 b8
   refine d.out _ _ (λw'=>At w0 p ((pf,ax p nm size g ks.length c {f with read:=false})::fs) s w') (λ_ h=>h) a1.o ?_;clear d K;repeat
    refine aA (v:= ?_) (λw' hS=> ?_) (λK d=> ?_);rotate_left
    ·have B:=aj w' pf (hS.get (af:(pf,ax p nm size g ks.length c {f with read:=false})∈(pf,ax p nm size g ks.length c {f with read:=false})::fs));clear hS;go_simp;try with_reducible rfl
    go_simp;refine d _ ?_;clear d K
   refine az (λK d=> ?_);go_simp;refine d.out _ _ (λw'=>At w0 p ((pf,ax p nm size g ks.length c {f with read:=false})::fs) s w') (λ_ h=>h) a1.o ?_;clear d K;show wpList _ _ _ _ _ _;first
    |have q:=q
     skip
    |refine aL (λY=>At w0 p ((pf,ax p nm size g ks.length c {f with read:=false})::x::fs) s Y) b6.o ?_
     intro W9 c1;have a8:=ae c1;clear c1 b6 a1;go_wp2_with fail;refine(a2.o _ _ _ _ b9.o a8.o).mono ?_;rintro e e5 ⟨rfl,n⟩;have a7:=ae (a8.o.below n);clear n a2 a8;first
      |have P:=P
       skip
      |go_wp2_with fail
       refine(c0.o _ _ _ _ b9.o d7.o a7.o).mono ?_;rintro e e6 ⟨rfl,s1,now,h8,c8,c3⟩;have d1:=ae (h8.less (λy i=>by rcases au i with rfl|i;exact af;exact ag _ (ag _ i)));have d6:=ae c8;have d3:=ae c3;clear h8 c8 c3 c0 a7
   go_wp2;go_ret;first
    |have q:=q
     exact⟨rfl,a1.o⟩
     skip
    |have P:=P
     exact⟨rfl,a7.o.less (λy i=>by rcases au i with rfl|i;exact af;exact ag _ (ag _ i))⟩
     skip
    |exact⟨rfl,_,_,d1.o,d6.o,d3.o⟩
abbrev VQ:= @Ry.1
abbrev IB:= @Ry.2.1
abbrev MN:= @Ry.2.2
end
namespace X
section
variable {u : Nat} {m : M}
theorem fg.aeX (h:fg u m):fg u m.dW:=⟨h.ks,h.rows,h.none,h.many,h.time,h.key,(λe=>by cases e),h.at_,h.mode⟩
theorem VR (h:fg u m) (k:Int) (b:B):fg (u+1) (m.get k b).1:=by
 unfold M.get;split
 ·exact h.mono (by omega)
 ·split
  ·exact h.dW
  ·split
   ·exact h.dW
   ·split
    ·rename_i r hr
     have a:k.toNat<m.ks.length:=(by omega);exact(h.aeX.keyed rfl a).take (M.wV hr)
    ·exact h.dW
end
structure FM (nm:B) (m:M) (f:Fv):Prop where
 mode:f.mode=m.mode
 ord:f.ord=m.ord
 key:f.key=m.key
 lost:f.lost=m.lost
 last:f.last=m.last
 read:f.read=m.read
 written:f.written=m.written
 pos:m.mode≠0->m.lost=false->f.at_=cy nm m.key m.value m.at_/\f.same=m.same
 rl:m.read=true->m.last.length<=160
structure Kp (nm:B) (u:Nat) (m:M) (L:List (List (B×B))) (s:J.St):Prop where
 mok:fg u m
 sto:mL u s.now s
 con:m.con nm s.now
 hist:J.ln True s 0 L (List.range L.length)
 len:L.length=s.writes.length+1
section
variable {nm : B} {u : Nat} {m m' : M} {L : List (List (B × B))} {s s1 : J.St} {f : Fv}
theorem FM.dW (h:FM nm m f):FM nm m.dW {f with at_:=[],same:=false,lost:=true,read:=false}:=
 ⟨h.mode,h.ord,h.key,rfl,h.last,rfl,h.written,(λ_ e=>by cases e),λe=>by cases e⟩
theorem FM.aG (h:FM nm m f):FM nm m.aG {f with read:=false}:=
 ⟨h.mode,h.ord,h.key,h.lost,h.last,rfl,h.written,h.pos,λe=>by cases e⟩
theorem fg.aeY (h:fg u m) {r:Row} (a:r∈m.rows):(val m.ks 0 r.b).length<=160:=by
 rw[bc (h.rows.fit r a) h.ks.one.1];exact(h.ks.key _ (aY h.ks.one.1)).2.1
theorem FM.take (h:FM nm m f) (a:fg u m) (r:Row) (b:r∈m.rows):FM nm (m.take r) {f with at_:=aN nm m.ks f.key r,same:=false,lost:=false,last:=val m.ks 0 r.b,read:=true}:=
 ⟨h.mode,h.ord,h.key,rfl,rfl,rfl,h.written,(λ_ _=>⟨by rw[h.key];rfl,rfl⟩),λ_=>a.aeY b⟩
theorem aa4 (nm:B) {ks:List Ky} {size:Nat} (h:eC ks size):Kp nm 0 (M.new ks size) [[]] J.new:=
 ⟨TX h,Uy,rfl,J.KN (J.Jf True) rfl,rfl⟩
theorem Kp.same (h:Kp nm u m L s) (b:fg (u+1) m') (c:mL u s.now s) (a:m'.con nm s.now):Kp nm (u+1) m' L s:=
 ⟨b,c.mono (Nat.le_succ u),a,h.hist,h.len⟩
theorem Kp.tx {now:List (B×B)} (h:Kp nm u m L s) (d:fg (u+1) m') (a:Tx u s s1 now) (c:m'.con nm now):Kp nm (u+1) m' (L++[now]) (J.aK s1):=by
 have b:=a.sto.now;refine⟨d,by rw[b];exact a.sto,by rw[b];exact c, ?_,by rw[List.length_append,h.len,a.wr];rfl⟩;have:=a.hist _ _ _ h.hist;rw[List.length_append,List.length_singleton,List.range_succ,h.len];rw[h.len]at this;exact this
theorem Kp.last (h:Kp nm u m L s):L[s.writes.length]? =some s.now:=by
 have h1:=h.hist.last;rw[List.length_range,h.len,Nat.add_sub_cancel]at h1;rw[h1];unfold J.St.com;rw[h.sto.opn];rfl
theorem Kp.idle (h:Kp nm u m L s):Kp nm u m L (J.cM (J.cW s)):=by
 have a:=h.sto;have b:=(J.CE (J.yK a.inv a.opn).1 rfl).1;refine⟨h.mok,⟨rfl,a.ar,a.now,a.base,b,a.wr,a.h0,a.h1,a.sum,a.log,a.a0,a.cm,a.cu,a.many⟩,h.con,h.hist.same rfl rfl rfl ?_,h.len⟩;unfold J.St.com;rw[a.opn];rfl
theorem Kp.cont (h:Kp nm u m L s) (a:m.there=true):iF nm (attr m.size m.ks) m.ks m.rows m.time s.now:=by
 have:=h.con;unfold M.con at this
 rwa [a]at this
theorem Kp.xf (h:Kp nm u m L s) (d:u<=340) (a:nm.length<=100/\1<=nm.length) (c:m.there=true):XF nm m.size m.ks m.rows m.time s.now:=
 ⟨h.cont c,h.mok.rows,h.mok.ks,by have:=h.mok.time;omega,a.2,a.1,by have:=h.sto.many;omega,λ_ _ b=>h.sto.len b⟩
theorem ED {wr:B} {l:List Nat} {md:Nat} (h:bP wr l md=good):md≠0:=λe=>by
 unfold bP at h;rw[if_pos e]at h;exact absurd h (by decide)
theorem xq (a:m'.there=true) {now:List (B×B)} (h:iF nm (attr m'.size m'.ks) m'.ks m'.rows m'.time now):m'.con nm now:=by
 unfold M.con;rw[a];exact h
theorem RA {m m':M} (e1:m'.ks=m.ks) (e2:m'.size=m.size) (e3:m'.there=m.there) (a:m'.rows=m.rows) (b:m'.time=m.time) (now:List (B×B)) (h:m.con nm now):m'.con nm now:=by
 unfold M.con at h|-;rw[e1,e2,e3,a,b];exact h
end
end X
structure KI (w0:World) (p pf:Nat) (nm:J.B) (u:Nat) (fs:List (Nat×Obj)) (m:X.M) (L:List (List (J.B×J.B))) (s:J.St) (f:Fv) (g c:Nat) (ok:Obj) (w:World):Prop where
 at_:At w0 p ((pf,ax p nm m.size g m.ks.length c f)::(g,ok)::fs) s w
 kp:X.Kp nm u m L s
 fm:X.FM nm m f
 ko:bR ok m.ks
 cap:m.ks.length<=c
 ne:∀x∈(g,ok)::fs,x.1≠pf
 neg:∀x∈fs,x.1≠g
 nm_:nm.length<=100/\1<=nm.length
def IK (w0:World) (p pf:Nat) (nm:J.B) (u:Nat) (fs:List (Nat×Obj)) (m:X.M) (L:List (List (J.B×J.B))) (w:World):Prop:=∃s f g c ok,KI w0 p pf nm u fs m L s f g c ok w
def FH (w0:World) (p pf:Nat) (nm:J.B) (u:Nat) (fs:List (Nat×Obj)) (m':X.M) (L:List (List (J.B×J.B))) (w':World):Prop:=∃L',(L'=L\/∃c,L'=L++[c])/\IK w0 p pf nm (u+1) fs m' L' w'
section
variable {w0 : World} {p pf g c : Nat} {nm : J.B} {u : Nat} {fs : List (Nat × Obj)} {m m' : X.M} {L : List (List (J.B × J.B))} {w w' : World} {s s1 : J.St} {f f' : Fv} {ok : Obj}
theorem KI.same (h:KI w0 p pf nm u fs m L s f g c ok w) (ha:At w0 p ((pf,ax p nm m.size g m.ks.length c f')::(g,ok)::fs) s w') (e:X.fg (u+1) m') (d:X.FM nm m' f') (e1:m'.ks=m.ks) (e2:m'.size=m.size) (e3:m'.there=m.there) (a:m'.rows=m.rows) (b:m'.time=m.time):FH w0 p pf nm u fs m' L w':=
 ⟨L, .inl rfl,s,f',g,c,ok,by rw[<-e1,<-e2]at ha;exact ha,h.kp.same e h.kp.sto (X.RA e1 e2 e3 a b _ h.kp.con),d,by rw[e1];exact h.ko,by rw[e1];exact h.cap,h.ne,h.neg,h.nm_⟩
theorem KI.tx {now:List (J.B×J.B)} (h:KI w0 p pf nm u fs m L s f g c ok w) (d:X.Kp nm u m L s1) {s2:J.St} (ha:At w0 p ((pf,ax p nm m.size g m.ks.length c f')::(g,ok)::fs) (J.aK s2) w') (e:X.fg (u+1) m') (b:X.FM nm m' f') (e1:m'.ks=m.ks) (e2:m'.size=m.size) (i:X.Tx u s1 s2 now) (a:m'.con nm now):FH w0 p pf nm u fs m' L w':=
 ⟨_, .inr ⟨now,rfl⟩,_,f',g,c,ok,by rw[<-e1,<-e2]at ha;exact ha,d.tx e i a,b,by rw[e1];exact h.ko,by rw[e1];exact h.cap,h.ne,h.neg,h.nm_⟩
theorem KI.src (h:KI w0 p pf nm u fs m L s f g c ok w) {v:Value} {b:J.B} (d:Src w0 p fs v b):∃A cb,v= .slice A b.length cb/\Src w0 p ((g,ok)::fs) (.slice A b.length cb) b:=by
 obtain⟨A,cb,e,_⟩:=(d _ _ _ (λx a=>ag _ (ag _ a)) h.at_).by
 subst e;exact⟨A,cb,rfl,d.more (λx a=>ag _ a)⟩
theorem KI.row (h:KI w0 p pf nm u fs m L s f g c ok w):w.heap[pf]? =some (ax p nm m.size g m.ks.length c f):=h.at_.get af
theorem EE (h:IK w0 p pf nm u fs m L w):
  Calls Tryz.prog 17 #[.pointer (some ⟨pf,0,none⟩)] w λe w'=>e= .returned (.string ⟨m.close.2.toArray⟩)/\FH w0 p pf nm u fs m.close.1 L w':=by
 obtain⟨s,f,g,c,ok,h⟩:=h;have a:=X.Qd h.kp.mok;revert a;unfold X.M.close;by_cases h1:m.mode=0
 ·rw[if_pos h1];intro a;refine(pP h.row (h.fm.mode.trans h1)).mono ?_;rintro e w1 ⟨rfl,rfl⟩;exact⟨rfl,h.same h.at_ a h.fm rfl rfl rfl rfl rfl⟩
 ·rw[if_neg h1];intro a;refine(GV h.row (by rw[h.fm.mode];omega)).mono ?_;rintro e w1 ⟨rfl,b,d⟩;exact⟨rfl,h.same (m':={m with mode:=0}) (cR h.at_ h.ne h.kp.sto.two b d) a ⟨rfl,h.fm.ord,h.fm.key,h.fm.lost,h.fm.last,h.fm.read,h.fm.written,(λe=>absurd rfl e),h.fm.rl⟩ rfl rfl rfl rfl rfl⟩
theorem Kh (h:IK w0 p pf nm u fs m L w) (t:u<=340):
  Calls Tryz.prog 20 #[.pointer (some ⟨pf,0,none⟩)] w λe w'=>∃v,e= .returned (.tuple #[v, .string ⟨m.next.2.2.toArray⟩])/\bT w' (· <w.heap.size) v (m.next.2.1.getD [])/\FH w0 p pf nm u fs m.next.1 L w':=by
 obtain⟨s,f,g,c,ok,h⟩:=h;have b:=X.JK h.kp.mok;have k:=h.fm.mode;revert b;unfold X.M.next;by_cases i:X.bP [52,55] [1,3] m.mode=X.good
 ·rw[if_neg (Decidable.not_not.2 i)];have l:X.bP [52,55] [1,3] f.mode=[48,48]:=(by rw[k];exact i);have q:=X.eK h.kp.mok (Decidable.not_not.2 i);have d:=h.kp.xf t h.nm_ q;by_cases a:m.lost=true
  ·rw[if_pos a];intro b;refine(GY h.at_ h.ne af h.ko h.kp.sto.two d l (h.fm.lost.trans a)).mono ?_;rintro e w1 ⟨rfl,h1⟩;exact⟨_,rfl,bT.dV,h.same (m':={m with read:=false}) h1 b h.fm.aG rfl rfl rfl rfl rfl⟩
  ·rw[if_neg a];have a:m.lost=false:=Bool.not_eq_true _▸a;obtain⟨x,y⟩:=h.fm.pos (X.ED i) a;have n:f.key<m.ks.length:=(by rw[h.fm.key];exact h.kp.mok.key);have j:afterOf s.now ⟨(X.pre nm f.key).toArray⟩ f.at_ f.same=m.at.map (X.aN nm m.ks f.key):=by
    rw[x,y,h.fm.key];exact d.con.after d.ks d.rows (by have:=d.ct;omega) h.kp.mok.key (by have:=h.kp.mok.at_;omega) (h.kp.mok.pos a) m.same
   cases hr:m.at with
   |some r=>
    rw[hr]at j;intro b;refine(GZ h.at_ h.ne af h.ko h.kp.sto.two d l (h.fm.lost.trans a) n r (X.M.at_mem hr) j).mono ?_;rintro e w1 ⟨v,rfl,h1,o⟩;refine⟨v, ?_,h1,h.same (m':=m.take r) o b (h.fm.take h.kp.mok r (X.M.at_mem hr)) rfl rfl rfl rfl rfl⟩;rw[h.fm.key];rfl
   |none=>
    rw[hr]at j;intro b;refine(Ha h.at_ h.ne af h.ko h.kp.sto.two d l (h.fm.lost.trans a) n j).mono ?_;rintro e w1 ⟨rfl,h1⟩;exact⟨_,rfl,bT.dV,h.same (m':=m.dW) h1 b h.fm.dW rfl rfl rfl rfl rfl⟩
 ·rw[if_pos i];intro b;refine(GX h.row (by rw[k];exact i)).mono ?_;rintro e w1 ⟨rfl,h1⟩;exact⟨_,by rw[k],bT.dV,h.same (h.at_.below h1) b h.fm rfl rfl rfl rfl rfl⟩
theorem Ki (h:IK w0 p pf nm u fs m L w) (C:u<=340) (k:Int) (v:Value) (b:J.B) (D:Src w0 p fs v b) (x:b.length<=1000000):
  Calls Tryz.prog 25 #[.pointer (some ⟨pf,0,none⟩), .int .i64 k,v] w λe w'=>∃v,e= .returned (.tuple #[v, .string ⟨(m.get k b).2.2.toArray⟩])/\bT w' (· <w.heap.size) v ((m.get k b).2.1.getD [])/\FH w0 p pf nm u fs (m.get k b).1 L w':=by
 obtain⟨s,f,g,c,ok,h⟩:=h;obtain⟨A,cb,rfl,y⟩:=h.src D;have a:=X.VR h.kp.mok k b;have j:=h.fm.mode;revert a;unfold X.M.get;by_cases d:X.bP [52,55] [1,3] m.mode=X.good
 ·rw[if_neg (Decidable.not_not.2 d)];have l:X.bP [52,55] [1,3] f.mode=[48,48]:=(by rw[j];exact d);have B:=X.eK h.kp.mok (Decidable.not_not.2 d);have n:=h.kp.xf C h.nm_ B;by_cases t:k<0\/m.ks.length<=k
  ·rw[if_pos t];intro a;refine(LU h.at_ h.ne af h.ko h.kp.sto.two n l k t A cb b).mono ?_;rintro e w1 ⟨rfl,h1⟩;exact⟨_,rfl,bT.dV,h.same (m':=m.dW) h1 a h.fm.dW rfl rfl rfl rfl rfl⟩
  ·rw[if_neg t];obtain⟨i,rfl⟩:∃i:Nat,k=i:=⟨k.toNat,by omega⟩;have q:i<m.ks.length:=(by omega);rw[Int.toNat_natCast];by_cases o:b.length<(X.aH m.ks i).at_+(X.aH m.ks i).len
   ·rw[if_pos o];intro a;refine(DZ h.at_ h.ne af h.ko h.kp.sto.two n l i q A cb b o).mono ?_;rintro e w1 ⟨rfl,h1⟩;exact⟨_,rfl,bT.dV,h.same (m':=m.dW) h1 a h.fm.dW rfl rfl rfl rfl rfl⟩
   ·rw[if_neg o];cases hr:m.lF i (X.val m.ks i b)with
    |some r=>
     intro a;refine(Hc h.at_ h.ne af h.ko h.kp.sto.two n l i q A cb b y (by omega) x r hr).mono ?_;rintro e w1 ⟨v,rfl,h1,z⟩;exact⟨v,rfl,h1,h.same (m':=(m.dW.keyed i).take r) z a ⟨j,h.fm.ord,rfl,rfl,rfl,rfl,h.fm.written,(λ_ _=>⟨rfl,rfl⟩),λ_=>h.kp.mok.aeY (X.M.wV hr)⟩ rfl rfl rfl rfl rfl⟩
    |none=>
     intro a;refine(Hd h.at_ h.ne af h.ko h.kp.sto.two n l i q A cb b y (by omega) x hr).mono ?_;rintro e w1 ⟨rfl,h1⟩;exact⟨_,rfl,bT.dV,h.same (m':=m.dW) h1 a h.fm.dW rfl rfl rfl rfl rfl⟩
 ·rw[if_pos d];intro a;refine(Hb h.row (by rw[j];exact d) k A b.length cb).mono ?_;rintro e w1 ⟨rfl,h1⟩;exact⟨_,by rw[j],bT.dV,h.same (h.at_.below h1) a h.fm rfl rfl rfl rfl rfl⟩
theorem EF (h:IK w0 p pf nm u fs m L w) (B:u<=340) (k:Int) (r:Nat) (t:r<=5) (v:Value) (b:J.B) (C:Src w0 p fs v b):
  Calls Tryz.prog 19 #[.pointer (some ⟨pf,0,none⟩), .int .i64 k, .int .u8 (r:Nat),v] w λe w'=>e= .returned (.string ⟨(m.start k r b).2.toArray⟩)/\FH w0 p pf nm u fs (m.start k r b).1 L w':=by
 obtain⟨s,f,g,c,ok,h⟩:=h;obtain⟨A,cb,rfl,y⟩:=h.src C;have a:=X.Qf h.kp.mok k r b;have n:=h.fm.mode;revert a;unfold X.M.start;by_cases j:X.bP [52,55] [1,3] m.mode=X.good
 ·rw[if_neg (Decidable.not_not.2 j)];have o:X.bP [52,55] [1,3] f.mode=[48,48]:=(by rw[n];exact j);have z:=X.eK h.kp.mok (Decidable.not_not.2 j);have q:=h.kp.xf B h.nm_ z;by_cases l:k<0\/m.ks.length<=k\/b.length=0\/(X.aH m.ks k.toNat).len<b.length
  ·rw[if_pos l];intro a;refine(Hk h.at_ h.ne af h.ko h.kp.sto.two q o k r A cb b l).mono ?_;rintro e w1 ⟨rfl,h1⟩;exact⟨rfl,h.same (m':=m.dW) h1 a h.fm.dW rfl rfl rfl rfl rfl⟩
  ·rw[if_neg l];obtain⟨i,rfl⟩:∃i:Nat,k=i:=⟨k.toNat,by omega⟩;rw[Int.toNat_natCast]at l|-;have d:=Mf h.at_ h.ne af h.ko h.kp.sto.two q o i r t A cb b y (by omega) (by omega) (by omega);rw[show pS m.ks i m.rows r b=m.place i r b from rfl]at d;cases hx:m.place i r b with
   |none=>
    rw[hx]at d;intro a;refine d.mono ?_;rintro e w1 ⟨rfl,h1⟩;exact⟨rfl,h.same (m':=m.dW) h1 a h.fm.dW rfl rfl rfl rfl rfl⟩
   |some x=>
    rw[hx]at d;intro a;refine d.mono ?_;rintro e w1 ⟨rfl,h1⟩;exact⟨rfl,h.same h1 a ⟨n,h.fm.ord,rfl,rfl,h.fm.last,rfl,h.fm.written,(λ_ _=>⟨rfl,rfl⟩),λe=>by cases e⟩ rfl rfl rfl rfl rfl⟩
 ·rw[if_pos j];intro a;refine(Ed h.row (by rw[n];exact j) k r A b.length cb).mono ?_;rintro e w1 ⟨rfl,h1⟩;exact⟨by rw[n],h.same (h.at_.below h1) a h.fm rfl rfl rfl rfl rfl⟩
theorem EG (h:IK w0 p pf nm u fs m L w) (B:u<=340) (v:Value) (b:J.B) (G:Src w0 p fs v b):
  Calls Tryz.prog 15 #[.pointer (some ⟨pf,0,none⟩),v] w λe w'=>e= .returned (.string ⟨(m.write b).2.toArray⟩)/\FH w0 p pf nm u fs (m.write b).1 L w':=by
 obtain⟨s,f,g,c,ok,h⟩:=h;obtain⟨A,cb,rfl,t⟩:=h.src G;have d:=X.Qe h.kp.mok b;have j:=h.fm.mode;revert d;unfold X.M.write;by_cases n:X.bP [52,56] [2,4,3] m.mode=X.good
 ·rw[if_neg (Decidable.not_not.2 n)];have q:X.bP [52,56] [2,4,3] f.mode=[48,48]:=(by rw[j];exact n);have z:=X.eK h.kp.mok (Decidable.not_not.2 n);have r:=h.kp.xf B h.nm_ z;by_cases i:X.bt m.ks m.size b=false
  ·rw[if_pos i];intro d;refine(Ex h.at_ h.ne af h.ko h.kp.sto.two r b A cb q i).mono ?_;rintro e w1 ⟨rfl,h1⟩;exact⟨rfl,h.same (m':=m.aG) h1 d h.fm.aG rfl rfl rfl rfl rfl⟩
  ·rw[if_neg i];have i:X.bt m.ks m.size b=true:=Bool.not_eq_false _▸i;by_cases k:m.ord=true/\m.mode≠3/\¬m.written<X.val m.ks 0 b
   ·rw[if_pos k];intro d;refine(BU h.at_ h.ne af h.ko h.kp.sto.two r b A cb t i q (h.fm.ord.trans k.1) (by rw[j];exact k.2.1) (by rw[h.fm.written];exact k.2.2)).mono ?_;rintro e w1 ⟨rfl,h1⟩;exact⟨rfl,h.same (m':=m.aG) h1 d h.fm.aG rfl rfl rfl rfl rfl⟩
   ·rw[if_neg k];have y:f.ord=true->f.mode≠3->f.written<X.val m.ks 0 b:=λa b'=>by
     rw[h.fm.ord]at a;rw[j]at b';rw[h.fm.written];exact Decidable.byContradiction λE=>k ⟨a,b',E⟩
    cases ea:m.find (X.val m.ks 0 b)with
    |some o=>
     rw[if_pos (.inl rfl)];intro d;refine(BW h.at_ h.ne af h.ko h.cap h.kp.sto.two r b A cb t i q y ea).mono ?_;rintro e w1 ⟨rfl,h1⟩;exact⟨rfl,h.same (m':=m.aG) h1 d h.fm.aG rfl rfl rfl rfl rfl⟩
    |none=>
     have x:=X.Eu m b none;by_cases l:m.dh b none=[50,50]
     ·rw[if_pos (.inr l)];intro d;refine(BV h.at_ h.ne af h.ko h.cap h.kp.sto.two r b A cb t i q y ea (x.trans l)).mono ?_;rintro e w1 ⟨rfl,h1⟩;exact⟨rfl,h.same (m':=m.aG) h1 d h.fm.aG rfl rfl rfl rfl rfl⟩
     ·rw[if_neg (by rintro(h1|h1);cases h1;exact l h1)];intro d;have F:=X.wU h.kp.mok.rows i ea (X.pO l) h.kp.mok.ks.one.1;refine(MA h.at_ h.ne af h.ko h.cap h.kp.sto.two r b A cb t i q y ea (by rw[x];exact l) h.kp.sto B F h.kp.mok.many).mono ?_;rintro e w1 ⟨rfl,s1,now,h1,C,D⟩;refine⟨by rw[x], ?_⟩;rw[X.wT]at d|-;exact h.tx h.kp h1 d ⟨j,h.fm.ord,h.fm.key,h.fm.lost,h.fm.last,rfl,rfl,h.fm.pos,λe=>by cases e⟩ rfl rfl C (X.xq (by exact z) (by exact D))
 ·rw[if_pos n];intro d;refine(Ew h.row (by rw[j];exact n) A b.length cb).mono ?_;rintro e w1 ⟨rfl,h1⟩;exact⟨by rw[j],h.same (h.at_.below h1) d h.fm rfl rfl rfl rfl rfl⟩
theorem xt (h:IK w0 p pf nm u fs m L w) (D:u<=340) (v:Value) (b:J.B) (I:Src w0 p fs v b):
  Calls Tryz.prog 26 #[.pointer (some ⟨pf,0,none⟩),v] w λe w'=>e= .returned (.string ⟨(m.rewrite b).2.toArray⟩)/\FH w0 p pf nm u fs (m.rewrite b).1 L w':=by
 obtain⟨s,f,g,c,ok,h⟩:=h;obtain⟨A,cb,rfl,x⟩:=h.src I;have d:=X.GU h.kp.mok b;have y:=h.fm.mode;revert d;unfold X.M.rewrite;by_cases t:X.bP [52,57] [3] m.mode=X.good
 ·rw[if_neg (Decidable.not_not.2 t)];have l:X.bP [52,57] [3] f.mode=[48,48]:=(by rw[y];exact t);have C:=X.eK h.kp.mok (Decidable.not_not.2 t);have n:=h.kp.xf D h.nm_ C;by_cases i:X.bt m.ks m.size b=false
  ·rw[if_pos i];intro d;refine(MM h.at_ h.ne af h.ko h.kp.sto.two n b A cb l i).mono ?_;rintro e w1 ⟨rfl,h1⟩;exact⟨rfl,h.same (m':=m.aG) h1 d h.fm.aG rfl rfl rfl rfl rfl⟩
  ·rw[if_neg i];have i:X.bt m.ks m.size b=true:=Bool.not_eq_false _▸i;by_cases k:m.ord=true/\m.read=false
   ·rw[if_pos k];intro d;refine(EC h.at_ h.ne af h.ko h.kp.sto.two n b A cb x i l (h.fm.ord.trans k.1) (h.fm.read.trans k.2)).mono ?_;rintro e w1 ⟨rfl,h1⟩;exact⟨rfl,h.same (m':=m.aG) h1 d h.fm.aG rfl rfl rfl rfl rfl⟩
   ·rw[if_neg k];by_cases j:m.ord=true/\X.val m.ks 0 b≠m.last
    ·rw[if_pos j];intro d;have G:m.read=true:=Decidable.byContradiction λr=>k ⟨j.1,Bool.not_eq_true _▸r⟩;refine(Iz h.at_ h.ne af h.ko h.kp.sto.two n b A cb x i l (h.fm.ord.trans j.1) (h.fm.read.trans G) (by rw[h.fm.last];exact j.2)).mono ?_;rintro e w1 ⟨rfl,h1⟩;exact⟨rfl,h.same (m':=m.aG) h1 d h.fm.aG rfl rfl rfl rfl rfl⟩
    ·rw[if_neg j];have B:f.ord=true->f.read=true/\X.val m.ks 0 b=f.last:=λa=>by
      rw[h.fm.ord]at a;refine⟨h.fm.read.trans (Decidable.byContradiction λr=>k ⟨a,Bool.not_eq_true _▸r⟩), ?_⟩;rw[h.fm.last];exact Decidable.byContradiction λr=>j ⟨a,r⟩
     cases ea:m.find (X.val m.ks 0 b)with
     |none=>
      intro d;refine(MN h.at_ h.ne af h.ko h.cap h.kp.sto.two n b A cb x i l B ea).mono ?_;rintro e w1 ⟨rfl,h1⟩;exact⟨rfl,h.same (m':=m.aG) h1 d h.fm.aG rfl rfl rfl rfl rfl⟩
     |some o=>
      have z:=X.Eu m b (some o);dsimp only;by_cases q:m.dh b (some o)=[50,50]
      ·rw[if_pos q];intro d;refine(IB h.at_ h.ne af h.ko h.cap h.kp.sto.two n b A cb x i l B ea (z.trans q)).mono ?_;rintro e w1 ⟨rfl,h1⟩;exact⟨rfl,h.same (m':=m.aG) h1 d h.fm.aG rfl rfl rfl rfl rfl⟩
      ·rw[if_neg q];intro d;have H:=X.wU h.kp.mok.rows i ea (X.pO q) h.kp.mok.ks.one.1;refine(VQ h.at_ h.ne af h.ko h.cap h.kp.sto.two n b A cb x i l B ea (by rw[z];exact q) h.kp.sto D H h.kp.mok.many).mono ?_;rintro e w1 ⟨rfl,s1,now,h1,E,F⟩;refine⟨by rw[z], ?_⟩;rw[X.wT]at d|-;exact h.tx h.kp h1 d ⟨y,h.fm.ord,h.fm.key,h.fm.lost,h.fm.last,rfl,h.fm.written,h.fm.pos,λe=>by cases e⟩ rfl rfl E (X.xq (by exact C) (by exact F))
 ·rw[if_pos t];intro d;refine(ML h.row (by rw[y];exact t) A b.length cb).mono ?_;rintro e w1 ⟨rfl,h1⟩;exact⟨by rw[y],h.same (h.at_.below h1) d h.fm rfl rfl rfl rfl rfl⟩
end
namespace X
theorem EH {u n:Nat} {old:List (B×B)} {s:J.St} (a:mL u old s) (c:∀k∈s.now.map (·.1),k.length<=n) (d:n<=300) (g:s.now.length<=10000):
  ∀k,k<=s.now.length->J.Inv True (opened s (fS ((s.now.map (·.1)).take k)) (s.now.drop k))
 |0,_=>lO a
 |k+1,hk=>by
  have b:=EH a c d g k (by omega);have e:k<(s.now.map (·.1)).length:=(by rw[List.length_map];omega);have hd:s.now.drop k=s.now[k]::s.now.drop (k+1):=List.drop_eq_getElem_cons (by omega);have f:(s.now.map (·.1))[k]=(s.now[k]).1:=List.getElem_map _;have h:(s.now.map (·.1)).take (k+1)=(s.now.map (·.1)).take k++[(s.now[k]).1]:=(by rw[List.take_succ_eq_append_getElem e,f]);have j:=rB ((s.now.map (·.1)).take k) 300 (λx i=>aw (c x (List.mem_of_mem_take i)) d);have l:((s.now.map (·.1)).take k).length<=10000:=(by rw[List.length_take,List.length_map];omega);rw[hd]at b;rw[h];exact(zj a ((s.now.map (·.1)).take k) (s.now.drop (k+1)) s.now[k] b (by omega)).2
theorem VT {u n:Nat} {old:List (B×B)} {s:J.St} {nm a:B} (b:mL u old s) (l:u<=340) (p:nm.length<=100) (d:∀k∈s.now.map (·.1),k.length<=n) (i:n<=300) (m:(3+n)*s.now.length+9+nm.length+a.length<=11900) (o:a.length<=8192):
  Tx u s (opened s (fS (s.now.map (·.1))++[⟨own nm,a,false⟩]) [(own nm,a)]) [(own nm,a)]:=by
 have h:s.now.length<=10000:=by have:=b.many;omega
 have c:=EH b d i h _ (aq _);rw[List.drop_length,List.take_of_length_le (by rw[List.length_map];exact Nat.le_refl _)]at c;have g:=rB (s.now.map (·.1)) n d;rw[List.length_map]at g;have f:=ly nm;have j:own nm≠[]:=λe=>by rw[e]at f;simp at f
 exact(zk b l (s.now.map (·.1)) (own nm) a c j (by omega) (by omega) (by omega)).2
def Bd (nm:B) (ks:List Ky) (size u:Nat):Prop:=∃n,nm.length+n+7<=300/\(∀i,i<ks.length->lens ks i<=n)/\(3+(nm.length+n+7))*(2+ks.length*u)+9+nm.length+(attr size ks).length<=11900
theorem Bd.mono {nm:B} {ks:List Ky} {size u v:Nat} (h:Bd nm ks size v) (c:u<=v):Bd nm ks size u:=by
 obtain⟨n,h1,a,b⟩:=h;refine⟨n,h1,a,aw ?_ b⟩;have:=Nat.mul_le_mul_left (3+(nm.length+n+7)) (Nat.add_le_add_left (Nat.mul_le_mul_left ks.length c) 2);omega
theorem Kj (nm:B):pre nm 0=cy nm 0 [] 0:=by
 unfold cy tail;simp
end X
section
variable {w0 : World} {p pf g c : Nat} {nm : J.B} {u : Nat} {fs : List (Nat × Obj)} {m m' : X.M} {L : List (List (J.B × J.B))} {w w' : World} {s s1 s' : J.St} {f f' : Fv} {ok : Obj}
theorem KI.RB (h:KI w0 p pf nm u fs m L s f g c ok w) (a:X.Kp nm u m L s') (ha:At w0 p ((pf,ax p nm m.size g m.ks.length c f')::(g,ok)::fs) s' w') (i:X.fg (u+1) m') (e:X.FM nm m' f') (e1:m'.ks=m.ks) (e2:m'.size=m.size) (e3:m'.there=m.there) (b:m'.rows=m.rows) (d:m'.time=m.time):FH w0 p pf nm u fs m' L w':=
 ⟨L, .inl rfl,s',f',g,c,ok,by rw[<-e1,<-e2]at ha;exact ha,a.same i a.sto (X.RA e1 e2 e3 b d _ a.con),e,by rw[e1];exact h.ko,by rw[e1];exact h.cap,h.ne,h.neg,h.nm_⟩
theorem Kk (h:IK w0 p pf nm u fs m L w) (v:u<=340) (F:X.Bd nm m.ks m.size u) (md:Nat) (d:Bool):
  Calls Tryz.prog 12 #[.pointer (some ⟨pf,0,none⟩), .int .u8 (md:Nat), .bool d] w λe w'=>e= .returned (.string ⟨(m.open md d).2.toArray⟩)/\FH w0 p pf nm u fs (m.open md d).1 L w':=by
 obtain⟨s,f,g,c,ok,h⟩:=h;have i:=X.UC h.kp.mok md d;have C:=h.fm.mode;revert i;unfold X.M.open;by_cases h1:md<1\/4<md
 ·rw[if_pos h1];intro i;refine(Mx h.at_ h.ne md h1 d).mono ?_;rintro e w1 ⟨rfl,ha⟩;exact⟨rfl,h.same ha i h.fm rfl rfl rfl rfl rfl⟩
 ·rw[if_neg h1];have r:1<=md/\md<=4:=(by omega);have b:=h.kp.idle;by_cases j:m.mode≠0
  ·rw[if_pos j];intro i;refine(yH h.at_ h.ne h.kp.sto.opn md r d (by rw[C];exact j)).mono ?_;rintro e w1 ⟨rfl,ha⟩;exact⟨rfl,h.RB b ha i h.fm rfl rfl rfl rfl rfl⟩
  ·rw[if_neg j];have j:m.mode=0:=Decidable.not_not.1 j;have t:f.mode=0:=C.trans j;by_cases l:md≠2/\m.there=false
   ·rw[if_pos l];intro i;have q:J.look (J.cM (J.cW s)).now (X.own nm)=none:=by
     have:=b.con;unfold X.M.con at this;rw[l.2]at this;rw[show(J.cM (J.cW s)).now=[]from this];rfl
    refine(yJ h.at_ h.ne af h.ko h.kp.mok.ks h.kp.sto.opn rfl b.sto.two h.nm_.1 t d md r l.1 q).mono ?_;rintro e w1 ⟨rfl,ha⟩;exact⟨rfl,h.RB b ha i h.fm rfl rfl rfl rfl rfl⟩
   ·rw[if_neg l];by_cases o:md=2
    ·subst o;intro i;obtain⟨n,b1,b2,b3⟩:=F;have N:=X.gN m.size m.ks;have G:=h.kp.mok.ks.one;have I:(3+(nm.length+n+7))*(J.cM (J.cW s)).now.length+9+nm.length+(X.attr m.size m.ks).length<=11900/\(∀k∈(J.cM (J.cW s)).now.map (·.1),k.length<=nm.length+n+7)/\keysOf (J.cM (J.cW s)).now ⟨(nm++[0]).toArray⟩=(J.cM (J.cW s)).now.map (·.1):=by
      cases ht:m.there with
      |true=>
       have x:=b.cont ht;have M:=x.count b.mok.rows (by have:=b.mok.time;omega) G.1 (by omega);refine⟨?_,λk y=>x.Jg b.mok.rows b.mok.ks b2 y (by have:=b.mok.time;omega),x.wP⟩;refine aw ?_ b3;have e1:(J.cM (J.cW s)).now.length<=2+m.ks.length*u:=by
        have:=Nat.mul_le_mul_left m.ks.length b.mok.many;have:(if 0<m.time then 1 else 0)<=1:=(by split<;>omega);omega
       have:=Nat.mul_le_mul_left (3+(nm.length+n+7)) e1;omega
      |false=>
       have:=b.con;unfold X.M.con at this;rw[ht]at this;have H:(J.cM (J.cW s)).now=[]:=this;rw[H];refine⟨?_,(λk y=>by cases y),rfl⟩;refine aw ?_ b3;simp only[List.length_nil,Nat.mul_zero];omega
     obtain⟨z,A,E⟩:=I;have K:=X.VT (nm:=nm) (a:=X.attr m.size m.ks) b.sto v h.nm_.1 A b1 z (by omega);have B:∀w1,At w0 p ((pf,ax p nm m.size g m.ks.length c {f with mode:=2,ord:=d,key:=0,at_:=X.pre nm 0,same:=true,lost:=false,read:=false,written:=[]})::(g,ok)::fs) (J.aK (X.opened (J.cM (J.cW s)) (X.fS ((J.cM (J.cW s)).now.map (·.1))++[⟨X.own nm,X.attr m.size m.ks,false⟩]) [(X.own nm,X.attr m.size m.ks)])) w1->FH w0 p pf nm u fs (m.opened 2 d) L w1:=λw1 ha=>
      h.tx b ha i ⟨rfl,rfl,rfl,rfl,h.fm.last,rfl,rfl,(λ_ _=>⟨X.Kj nm,rfl⟩),λe=>by cases e⟩ rfl rfl K (X.xq rfl (JZ h.kp.mok.ks nm))
     cases q:J.look (J.cM (J.cW s)).now (X.own nm)with
     |none=>
      refine(Ik h.at_ h.ne af h.ko h.kp.mok.ks h.kp.sto.opn b.sto v rfl h.nm_ t d 2 r rfl q E A b1 z).mono ?_;rintro e w1 ⟨rfl,ha⟩;exact⟨rfl,B _ ha⟩
     |some a=>
      refine(Il h.at_ h.ne af h.ko h.kp.mok.ks h.kp.sto.opn b.sto v rfl h.nm_ t d 2 r rfl a (by have:=b.sto.len q;omega) q E A b1 z).mono ?_;rintro e w1 ⟨rfl,ha⟩;exact⟨rfl,B _ ha⟩
    ·intro i;have D:m.there=true:=by
      cases ht:m.there with
      |true=>rfl
      |false=>exact absurd ⟨o,ht⟩ l
     refine(Ez h.at_ h.ne af h.ko h.kp.mok.ks h.kp.sto.opn rfl b.sto.two h.nm_.1 t d md r o (b.xf v h.nm_ D)).mono ?_;rintro e w1 ⟨rfl,ha⟩;refine⟨rfl,h.RB b ha i ⟨rfl,rfl,rfl,rfl,h.fm.last,rfl,rfl,(λ_ _=>⟨X.Kj nm,rfl⟩),λe=>by cases e⟩ rfl rfl D.symm ?_ ?_⟩
     ·show(if md=2 then []else m.rows)=m.rows;rw[if_neg o]
     ·show(if md=2 then 0 else m.time)=m.time;rw[if_neg o]
end
section
variable {w0 : World} {p pf g c size ct u : Nat} {nm : J.B} {ks : List X.Ky} {rows : List X.Row} {f : Fv} {w w' : World} {s s1 s2 : J.St} {fs : List (Nat × Obj)} {ok : Obj}
theorem MO (h0:w.heap[pf]? =some (ax p nm size g ks.length c f)) (h:X.bP [52,57] [3] f.mode≠[48,48]) (A:Option Addr) (m cb:Nat):
  Calls Tryz.prog 27 #[.pointer (some ⟨pf,0,none⟩), .slice A m cb] w λe w'=>e= .returned (.string ⟨(X.bP [52,57] [3] f.mode).toArray⟩)/\Below w.heap.size w w':=by
 have d:=(ai h0).1;have a:Below w.heap.size w (w.alloc (aO pf)):=(ak _ w).alloc (aq _) _;have b:=ae (bQ ((a.block pf d).trans h0) [52,57] [3] 1 #[.int .u8 3] rfl rfl (by decide) (w.heap.size+1) (by simp));have k:=uh h;have i:=ae (a.alloc a.size (.cells #[.int .u8 3] 32));generalize(⟨(X.bP [52,57] [3] f.mode).toArray⟩:ByteArray)=l at b k|-;clear h0 h d a;go_enter Tryz.func27,Tryz.ntmps27;go_wp2_with fail;refine b.o.mono ?_;rintro e W1 ⟨rfl,j⟩;subst j;clear b;go_wp2;go_ret;exact⟨rfl,i.o⟩
theorem RD:(∀{w0:World} {p pf g c size ct:Nat} {nm:J.B} {ks:List X.Ky} {rows:List X.Row} {f:Fv} {w:World} {s:J.St} {fs:List (Nat×Obj)} {ok:Obj} (h:At w0 p ((pf,ax p nm size g ks.length c f)::fs) s w) (k:∀x∈fs,x.1≠pf) (l:(g,ok)∈fs) (a:bR ok ks) (o:J.Two s) (d:XF nm size ks rows ct s.now) (b:J.B) (A:Option Addr) (cb:Nat) (n:X.bP [52,57] [3] f.mode=[48,48]) (m:f.ord=false) (hl:b.length<(X.aH ks 0).at_+(X.aH ks 0).len) (T:(X.aH ks 0).at_+(X.aH ks 0).len<=1000000),Calls Tryz.prog 27 #[.pointer (some ⟨pf,0,none⟩), .slice A b.length cb] w λe w'=>e= .returned (.string ⟨#[52,52]⟩)/\At w0 p ((pf,ax p nm size g ks.length c {f with read:=false})::fs) s w')/\(∀{w0:World} {p pf g c size ct:Nat} {nm:J.B} {ks:List X.Ky} {rows:List X.Row} {f:Fv} {w:World} {s:J.St} {fs:List (Nat×Obj)} {ok:Obj} (h:At w0 p ((pf,ax p nm size g ks.length c f)::fs) s w) (k:∀x∈fs,x.1≠pf) (l:(g,ok)∈fs) (a:bR ok ks) (o:J.Two s) (d:XF nm size ks rows ct s.now) (b:J.B) (A:Option Addr) (cb:Nat) (n:X.bP [52,57] [3] f.mode=[48,48]) (m:f.ord=true) (E:f.read=false),Calls Tryz.prog 27 #[.pointer (some ⟨pf,0,none⟩), .slice A b.length cb] w λe w'=>e= .returned (.string ⟨#[52,51]⟩)/\At w0 p ((pf,ax p nm size g ks.length c {f with read:=false})::fs) s w'):=by
 refine⟨?z0, ?z1⟩
 case' z0=>intro w0 p pf g c size ct nm ks rows f w s fs ok h k l a o d b A cb n m hl T
 case' z1=>(intro w0 p pf g c size ct nm ks rows f w s fs ok h k l a o d b A cb n m E;have r:=trivial)
 all_goals
  first
   |have r:=r
    have a1:=ae E;clear E
   |have hw:wrap64 (((X.aH ks 0).at_:Int)+(X.aH ks 0).len)=(((X.aH ks 0).at_+(X.aH ks 0).len:Nat):Int):=by rw[IntWalk.wrap64_in _ (by omega)];omega
    have a8:IntKind.i64.wrap (((X.aH ks 0).at_:Int)+(X.aH ks 0).len)=(((X.aH ks 0).at_+(X.aH ks 0).len:Nat):Int):=(by rw[IntKind.wrap_i64];omega);have a7:(b.length:Int)<(((X.aH ks 0).at_+(X.aH ks 0).len:Nat):Int):=(by omega);clear T
  obtain⟨C,Q⟩:=h.tL k (aO pf);have U:=d.ks.one;have B:=ae (bQ (C.get af) [52,57] [3] 1 #[.int .u8 3] rfl rfl (by decide) (w.heap.size+1) (by simp));rw[n]at B;have I:=ae (C.below ((ak _ _).alloc (aq _) (.cells #[.int .u8 3] 32)));have N:=ae (λW (hh:At w0 p ((pf,ax p nm size g ks.length c {f with read:=false})::(w.heap.size,aO pf)::fs) s W)=>a.2 W g (hh.get (ag _ (ag _ l))));have L:=ae (λW (hh:At w0 p ((pf,ax p nm size g ks.length c f)::(w.heap.size,aO pf)::fs) s W) (h1:W.heap[pf]? =some (ax p nm size g ks.length c f))=>cR (f':={f with read:=false}) hh Q o (ay (World.grownBy.refl W (some pf)) 11 (.bool false)) (aB h1 11 (.bool false)));have a0:=ae U;clear h n k l a o d C Q U;go_enter Tryz.func27,Tryz.ntmps27;go_wp2_with fail;refine B.o.mono ?_;rintro e W1 ⟨rfl,a2⟩;subst a2;clear B;refine aL (λX=>At w0 p ((pf,ax p nm size g ks.length c f)::(w.heap.size,aO pf)::fs) s X) I.o ?_;intro W ha;clear I;have h1:W.heap[pf]? =some (ax p nm size g ks.length c f):=ha.get af;have hz:=aD h1;have u:=aj W pf h1;have P:=aj W w.heap.size (ha.get (ag _ af));first
   |have r:=r
    rw[a1.o]at u
   |skip
  have M:=ae (L.o _ ha h1);clear ha h1 L;go_upto_region 6 with fail;refine aL (λY=>At w0 p ((pf,ax p nm size g ks.length c {f with read:=false})::(w.heap.size,aO pf)::fs) s Y) M.o ?_;intro W2 i;have K:=ae i;have u:=aj W2 pf (i.get af);have P:=aj W2 w.heap.size (i.get (ag _ af));have D:0<ks.length:=(by have:=a0.o;omega);have v:=N.o _ i;have V:=v.at_ D;have G:=v.len D;have H:=v.dup D;rw[Nat.zero_mul]at V G H;rw[Nat.zero_add]at G H;have a6:(0:Int)<(ks.length:Nat):=(by omega);have O:=ae (heap_alloc_new W2 dU);clear i M v N hz;go_wp2_with (refine wpList_store_row rfl _ _ 66 rfl W2.heap.size rfl _ rfl _ _ O.o rfl (by kernel_rfl) rfl ?_);intro q z S a4;obtain⟨t,a3⟩:=K.o.stored dU S;have z:q.heap[W2.heap.size]? =some (aT (X.aH ks 0)):=z;have Z:=ae t;have u:=aj q pf (t.get af);have P:=aj q w.heap.size (t.get (ag _ af));have a5:=aj q W2.heap.size z;clear t a3 z S a4 O V G H K;rw[m]at u;clear m;go_wp2;go_ret;exact⟨rfl,Z.o.less (λy F=>by rcases au F with rfl|F;exact af;exact ag _ (ag _ F))⟩
abbrev IC:= @RD.1
abbrev EI:= @RD.2
end
end Go.Proofs.YtipljcmmokaokaaGreat
