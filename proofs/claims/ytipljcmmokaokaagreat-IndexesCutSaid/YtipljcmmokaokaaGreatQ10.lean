import Derived.Test.YtipljcmmokaokaaGreatQ09
set_option linter.unusedVariables false
set_option linter.unusedSimpArgs false
set_option maxHeartbeats 40000000
namespace Go.Proofs.YtipljcmmokaokaaGreat
open Go.RowKit Go.Lib Go.Maps Go.WideMaps Go.Sort
set_option maxRecDepth 100000
theorem uh {x y:J.B} (h:x≠y):((⟨x.toArray⟩:ByteArray).toList==y)=false:=by
 rw[ByteArray.toList_eq]
 simpa using h
section
variable {w0 : World} {p pf g c size ct u : Nat} {nm : J.B} {ks : List X.Ky} {rows : List X.Row} {f : Fv} {w w' : World} {s s1 s2 : J.St} {fs : List (Nat × Obj)} {ok : Obj}
theorem GX (h0:w.heap[pf]? =some (ax p nm size g ks.length c f)) (b:X.bP [52,55] [1,3] f.mode≠[48,48]):
  Calls Tryz.prog 20 #[.pointer (some ⟨pf,0,none⟩)] w λe w'=>e= .returned (.tuple #[.slice none 0 0, .string ⟨(X.bP [52,55] [1,3] f.mode).toArray⟩])/\Below w.heap.size w w':=by
 have a:=ae (bQ h0 [52,55] [1,3] 2 #[.int .u8 1, .int .u8 3] rfl rfl (by decide) w.heap.size rfl);have i:=uh b;have d:=ae ((ak _ w).alloc (aq _) (.cells #[.int .u8 1, .int .u8 3] 32));generalize(⟨(X.bP [52,55] [1,3] f.mode).toArray⟩:ByteArray)=j at a i|-;clear h0 b;go_enter Tryz.func20,Tryz.ntmps20;go_wp2_with fail;refine a.o.mono ?_;rintro e W1 ⟨rfl,h⟩;subst h;clear a;go_wp2;go_ret2;exact⟨rfl,d.o⟩
theorem GY (h:At w0 p ((pf,ax p nm size g ks.length c f)::fs) s w) (d:∀x∈fs,x.1≠pf) (t:(g,ok)∈fs) (n:bR ok ks) (l:J.Two s) (q:XF nm size ks rows ct s.now) (k:X.bP [52,55] [1,3] f.mode=[48,48]) (u:f.lost=true):
  Calls Tryz.prog 20 #[.pointer (some ⟨pf,0,none⟩)] w λe w'=>e= .returned (.tuple #[.slice none 0 0, .string ⟨#[52,54]⟩])/\At w0 p ((pf,ax p nm size g ks.length c {f with read:=false})::fs) s w':=by
 have i:=(ai (h.get af)).1;have i:pf<w.heap.size:=i;have a:=ae (bQ (h.get af) [52,55] [1,3] 2 #[.int .u8 1, .int .u8 3] rfl rfl (by decide) w.heap.size rfl);rw[k]at a;have b:=ae (h.below ((ak _ w).alloc (aq _) (.cells #[.int .u8 1, .int .u8 3] 32)));clear h k;go_enter Tryz.func20,Tryz.ntmps20;go_wp2_with fail;refine a.o.mono ?_;rintro e W1 ⟨rfl,o⟩;subst o;clear a;refine aL (λX=>At w0 p ((pf,ax p nm size g ks.length c f)::fs) s X/\Below w.heap.size w X) ⟨b.o,(ak _ w).alloc (aq _) _⟩ ?_;rintro W ⟨ha,v⟩;clear b;have h1:W.heap[pf]? =some (ax p nm size g ks.length c f):=ha.get af;have y:=aD h1;have r:=aj W pf h1;rw[u]at r;have m:=ae (cR (f':={f with read:=false}) ha d l (ay (World.grownBy.refl W (some pf)) 11 (.bool false)) (aB h1 11 (.bool false)));clear ha d t n l q h1;go_wp2;go_ret2;exact⟨rfl,m.o⟩
theorem Yh:(∀{w0:World} {p pf g c size ct:Nat} {nm:J.B} {ks:List X.Ky} {rows:List X.Row} {f:Fv} {w:World} {s:J.St} {fs:List (Nat×Obj)} {ok:Obj} (h:At w0 p ((pf,ax p nm size g ks.length c f)::fs) s w) (m:∀x∈fs,x.1≠pf) (u:(g,ok)∈fs) (o:bR ok ks) (n:J.Two s) (b:XF nm size ks rows ct s.now) (C:X.bP [52,55] [1,3] f.mode=[48,48]) (y:f.lost=false) (t:f.key<ks.length) (r:X.Row) (i:r∈rows) (z:afterOf s.now ⟨(X.pre nm f.key).toArray⟩ f.at_ f.same=some (X.aN nm ks f.key r)),Calls Tryz.prog 20 #[.pointer (some ⟨pf,0,none⟩)] w λe w'=>∃v,e= .returned (.tuple #[v, .string ⟨(gZ ks rows f.key r).toArray⟩])/\bT w' (· <w.heap.size) v r.b/\At w0 p ((pf,ax p nm size g ks.length c {f with at_:=X.aN nm ks f.key r,same:=false,lost:=false,last:=X.val ks 0 r.b,read:=true})::fs) s w')/\(∀{w0:World} {p pf g c size ct:Nat} {nm:J.B} {ks:List X.Ky} {rows:List X.Row} {f:Fv} {w:World} {s:J.St} {fs:List (Nat×Obj)} {ok:Obj} (h:At w0 p ((pf,ax p nm size g ks.length c f)::fs) s w) (m:∀x∈fs,x.1≠pf) (u:(g,ok)∈fs) (o:bR ok ks) (n:J.Two s) (b:XF nm size ks rows ct s.now) (C:X.bP [52,55] [1,3] f.mode=[48,48]) (y:f.lost=false) (t:f.key<ks.length) (z:afterOf s.now ⟨(X.pre nm f.key).toArray⟩ f.at_ f.same=none),Calls Tryz.prog 20 #[.pointer (some ⟨pf,0,none⟩)] w λe w'=>e= .returned (.tuple #[.slice none 0 0, .string ⟨#[49,48]⟩])/\At w0 p ((pf,ax p nm size g ks.length c {f with at_:=[],same:=false,lost:=true,read:=false})::fs) s w'):=by
 refine⟨?z0, ?z1⟩
 case' z0=>intro w0 p pf g c size ct nm ks rows f w s fs ok h m u o n b C y t r i z
 case' z1=>(intro w0 p pf g c size ct nm ks rows f w s fs ok h m u o n b C y t z;have d:=trivial)
 all_goals
  have U:=(ai (h.get af)).1;have U:pf<w.heap.size:=U;have H:=ae (bQ (h.get af) [52,55] [1,3] 2 #[.int .u8 1, .int .u8 3] rfl rfl (by decide) w.heap.size rfl);rw[C]at H;have M:=ae (h.below ((ak _ w).alloc (aq _) (.cells #[.int .u8 1, .int .u8 3] 32)));have L:=λW=>bU nm size (some ⟨g,0,none⟩) ks.length c f.key (by have:=b.ks.one;omega) (by have:=b.nm;omega) W;have D:=λw1 (hh:At w0 p ((pf,ax p nm size g ks.length c f)::fs) s w1)=>iL hh ⟨(X.pre nm f.key).toArray⟩ f.at_ f.same (by have:=b.many;omega);rw[z]at D;have HP:=ae L;have N:=ae D;first
   |have d:=d
    have Q:=ae (λw1 (hh:At w0 p ((pf,ax p nm size g ks.length c f)::fs) s w1) w2 (E:w1.grownBy w2 (some pf)) (i:w2.heap[pf]? =some (ax p nm size g ks.length c {f with at_:=[],same:=false,lost:=true,read:=false}))=>cR hh m n E i)
    skip
   |have I:=ae (λw1 (hh:At w0 p ((pf,ax p nm size g ks.length c f)::fs) s w1)=>zr hh m u o n b t r i)
    generalize gZ ks rows f.key r=st at I|-
  generalize(⟨(X.pre nm f.key).toArray⟩:ByteArray)=P at HP N;first
   |have d:=d
    clear L D z m u o n b t
   |clear L D z m u o n b t i
  clear h C;go_enter Tryz.func20,Tryz.ntmps20;go_wp2_with fail;refine H.o.mono ?_;rintro e W1 ⟨rfl,a0⟩;subst a0;clear H;refine aL (λX=>At w0 p ((pf,ax p nm size g ks.length c f)::fs) s X/\Below w.heap.size w X) ⟨M.o,(ak _ w).alloc (aq _) _⟩ ?_;rintro W ⟨ha,T⟩;clear M;have q:=aj W pf (ha.get (af:(pf,ax p nm size g ks.length c f)∈(pf,ax p nm size g ks.length c f)::fs));rw[y]at q;go_wp2_with fail;clear q;refine aJ 28 (.rd 0 (.rd 1 (.rd 2 (.rd 3 (.rd 4 (.rd 5 (.rd 6 (.rd 7 (.rd 8 (.rd 9 (.rd 10 (.rd 11 (.rd 13 (.rd 14 (.rd 15 (.rd 16 (.rd 17 (.rd 18 (.rd 19 (.rd 20 (.rd 21 (.rd 22 (.wr 12 (.wr 23 (.rd 24 (.rd 25 (.rd 26 (.wr 27 .fin)))))))))))))))))))))))))))) (λw'=>At w0 p ((pf,ax p nm size g ks.length c f)::fs) s w') (ha.below ((ak _ _).drew)) ?_;repeat
   refine aA (v:= ?_) (λw' B=> ?_) (λK a=> ?_);rotate_left
   ·have q:=aj w' pf (B.get (af:(pf,ax p nm size g ks.length c f)∈(pf,ax p nm size g ks.length c f)::fs));rw[y]at q;clear B;go_simp;try with_reducible rfl
   go_simp;refine a _ ?_;clear a K
  refine az (λK a=> ?_);go_simp;refine(HP.o _).mono ?_;rintro e W2 ⟨rfl,l⟩;have F:=ae (ha.below (((ak _ W).drew).trans l));have O:=ae (T.trans ((((ak _ W).drew).trans l).mono T.size));refine a.out _ _ (λw'=>At w0 p ((pf,ax p nm size g ks.length c f)::fs) s w') (λ_ h=>h) F.o ?_;clear a K;clear l;refine az (λK a=> ?_);go_simp;refine(N.o _ F.o).mono ?_;rintro e W3 ⟨rfl,l⟩;have A:=ae (F.o.below l);have Y:=ae (O.o.trans (l.mono O.o.size));refine a.out _ _ (λw'=>At w0 p ((pf,ax p nm size g ks.length c f)::fs) s w') (λ_ h=>h) A.o ?_;clear a K;clear l;repeat
   refine aA (v:= ?_) (λw' B=> ?_) (λK a=> ?_);rotate_left
   ·have q:=aj w' pf (B.get (af:(pf,ax p nm size g ks.length c f)∈(pf,ax p nm size g ks.length c f)::fs));rw[y]at q;clear B;go_simp;try with_reducible rfl
   go_simp;refine a _ ?_;clear a K
  refine az (λK a=> ?_);go_simp;refine a.out _ _ (λw'=>At w0 p ((pf,ax p nm size g ks.length c f)::fs) s w') (λ_ h=>h) A.o ?_;clear a K;show wpList _ _ _ _ _ _;go_wp2_with fail;first
   |have d:=d
    refine(kN (A.o.get af)).mono ?_;rintro e W4 ⟨⟨_,rfl⟩,E,i⟩;have G:=ae (Q.o _ A.o _ E i);clear E i Q
   |refine(I.o _ A.o).mono ?_
    rintro e W4 ⟨v,rfl,V,S⟩;have G:=ae S;have Z:=ae (V.weak (M':=(· <w.heap.size)) (λk hk=>av hk Y.o.size));clear V S I
  go_wp2;go_ret2;first
   |have d:=d
    exact⟨rfl,G.o⟩
    skip
   |exact⟨_,rfl,Z.o,G.o⟩
abbrev GZ:= @Yh.1
abbrev Ha:= @Yh.2
end
def Src (w0:World) (p:Nat) (fs:List (Nat×Obj)) (v:Value) (l:J.B):Prop:=∀gs t w1,(∀x∈fs,x∈gs)->At w0 p gs t w1->Sl w1 bE v l
abbrev aT (k:X.Ky):Obj:= .cells #[.int .i64 (k.at_:Nat), .int .i64 (k.len:Nat), .bool k.dup] 66 (0,0)
abbrev dU:Obj:= .cells #[.int .i64 0, .int .i64 0, .bool false] 66 (0,0)
section
variable {w0 : World} {p pf g c size ct u : Nat} {nm : J.B} {ks : List X.Ky} {rows : List X.Row} {f : Fv} {w w' : World} {s s1 s2 : J.St} {fs : List (Nat × Obj)} {ok : Obj}
theorem Src.slice {v:Value} {l:J.B} {gs:List (Nat×Obj)} (h:Src w0 p fs v l) (ha:At w0 p gs s w) (a:∀x∈fs,x∈gs):∃A c,v= .slice A l.length c:=by
 obtain⟨A,c,e,_⟩:=(h _ _ _ a ha).by
 exact⟨A,c,e⟩
theorem fT {x:Nat×Obj}:∀y∈fs,y∈x::fs:=λ_ a=>ag _ a
theorem At.stored (h:At w0 p fs s w) (o:Obj) (b:(w.alloc o).grownBy w' (some w.heap.size)):At w0 p fs s w'/\Below w.heap.size w w':=by
 have a:Below w.heap.size w w':=((ak _ w).alloc (aq _) o).grown b (by simp) (λk e=>by injection e with e;omega);exact⟨h.below a,a⟩
theorem Hb (h0:w.heap[pf]? =some (ax p nm size g ks.length c f)) (b:X.bP [52,55] [1,3] f.mode≠[48,48]) (k:Int) (A:Option Addr) (m cb:Nat):
  Calls Tryz.prog 25 #[.pointer (some ⟨pf,0,none⟩), .int .i64 k, .slice A m cb] w λe w'=>e= .returned (.tuple #[.slice none 0 0, .string ⟨(X.bP [52,55] [1,3] f.mode).toArray⟩])/\Below w.heap.size w w':=by
 have a:=ae (bQ h0 [52,55] [1,3] 2 #[.int .u8 1, .int .u8 3] rfl rfl (by decide) w.heap.size rfl);have i:=uh b;have d:=ae ((ak _ w).alloc (aq _) (.cells #[.int .u8 1, .int .u8 3] 32));generalize(⟨(X.bP [52,55] [1,3] f.mode).toArray⟩:ByteArray)=j at a i|-;clear h0 b;go_enter Tryz.func25,Tryz.ntmps25;go_wp2_with fail;refine a.o.mono ?_;rintro e W1 ⟨rfl,h⟩;subst h;clear a;go_wp2;go_ret2;exact⟨rfl,d.o⟩
theorem Qk:(∀{w0:World} {p pf g c size ct:Nat} {nm:J.B} {ks:List X.Ky} {rows:List X.Row} {f:Fv} {w:World} {s:J.St} {fs:List (Nat×Obj)} {ok:Obj} (h:At w0 p ((pf,ax p nm size g ks.length c f)::fs) s w) (o:∀x∈fs,x.1≠pf) (q:(g,ok)∈fs) (m:bR ok ks) (r:J.Two s) (d:XF nm size ks rows ct s.now) (v:X.bP [52,55] [1,3] f.mode=[48,48]) (i:Nat) (u:i<ks.length) (A:Option Addr) (cb:Nat) (b:J.B) (E:b.length<(X.aH ks i).at_+(X.aH ks i).len),Calls Tryz.prog 25 #[.pointer (some ⟨pf,0,none⟩), .int .i64 (i:Nat), .slice A b.length cb] w λe w'=>e= .returned (.tuple #[.slice none 0 0, .string ⟨#[52,52]⟩])/\At w0 p ((pf,ax p nm size g ks.length c {f with at_:=[],same:=false,lost:=true,read:=false})::fs) s w')/\(∀{w0:World} {p pf g c size ct:Nat} {nm:J.B} {ks:List X.Ky} {rows:List X.Row} {f:Fv} {w:World} {s:J.St} {fs:List (Nat×Obj)} {ok:Obj} (h:At w0 p ((pf,ax p nm size g ks.length c f)::fs) s w) (o:∀x∈fs,x.1≠pf) (q:(g,ok)∈fs) (m:bR ok ks) (r:J.Two s) (d:XF nm size ks rows ct s.now) (v:X.bP [52,55] [1,3] f.mode=[48,48]) (k:Int) (y:k<0\/ks.length<=k) (A:Option Addr) (cb:Nat) (b:J.B),Calls Tryz.prog 25 #[.pointer (some ⟨pf,0,none⟩), .int .i64 k, .slice A b.length cb] w λe w'=>e= .returned (.tuple #[.slice none 0 0, .string ⟨#[50,51]⟩])/\At w0 p ((pf,ax p nm size g ks.length c {f with at_:=[],same:=false,lost:=true,read:=false})::fs) s w'):=by
 refine⟨?z0, ?z1⟩
 case' z0=>intro w0 p pf g c size ct nm ks rows f w s fs ok h o q m r d v i u A cb b E
 case' z1=>(intro w0 p pf g c size ct nm ks rows f w s fs ok h o q m r d v k y A cb b;have l:=trivial)
 all_goals
  have O:=(ai (h.get af)).1;have O:pf<w.heap.size:=O;have C:=ae (bQ (h.get af) [52,55] [1,3] 2 #[.int .u8 1, .int .u8 3] rfl rfl (by decide) w.heap.size rfl);rw[v]at C;have G:=ae (h.below ((ak _ w).alloc (aq _) (.cells #[.int .u8 1, .int .u8 3] 32)));have I:=ae (λw1 (hh:At w0 p ((pf,ax p nm size g ks.length c f)::fs) s w1) w2 (a:w1.grownBy w2 (some pf)) (B:w2.heap[pf]? =some (ax p nm size g ks.length c {f with at_:=[],same:=false,lost:=true,read:=false}))=>cR hh o r a B);first
   |have l:=l
    clear o q m r d
   |have Q:=ae (λw1 (hh:At w0 p ((pf,ax p nm size g ks.length c {f with at_:=[],same:=false,lost:=true,read:=false})::fs) s w1)=>m.2 w1 g (hh.get (ag _ q)))
    have a4:(i:Int)<(ks.length:Nat):=(by omega);have a3:¬(i:Int)<0:=(by omega);have a5:¬(ks.length:Int)<=(i:Nat):=(by omega);have V:=d.ks.key _ (X.aY u);have Y:=d.ks.size;have a7:wrap64 (((X.aH ks i).at_:Int)+((X.aH ks i).len:Int))=((X.aH ks i).at_:Int)+((X.aH ks i).len:Int):=IntWalk.wrap64_in _ (by omega);have a1:(b.length:Int)<((X.aH ks i).at_:Int)+((X.aH ks i).len:Int):=(by omega);generalize(X.aH ks i).at_+(X.aH ks i).len=S at E;clear o q m r d V Y E S
  clear h v;go_enter Tryz.func25,Tryz.ntmps25;go_wp2_with fail;refine C.o.mono ?_;rintro e W1 ⟨rfl,T⟩;subst T;clear C;refine aL (λX=>At w0 p ((pf,ax p nm size g ks.length c f)::fs) s X/\Below w.heap.size w X) ⟨G.o,(ak _ w).alloc (aq _) _⟩ ?_;rintro W ⟨ha,N⟩;clear G;go_wp2_with fail;refine(kN (ha.get af)).mono ?_;rintro e W2 ⟨⟨_,rfl⟩,a,B⟩;have n:=I.o _ ha _ a B;have H:aa (w.heap.size<=W2.heap.size):=ae (aw N.size a.size);clear a B I ha N;first
   |have l:=l
    have t:=ae n
    skip
   |skip
  have U:=aj W2 pf (n.get (af:(pf,ax p nm size g ks.length c {f with at_:=[],same:=false,lost:=true,read:=false})∈(pf,ax p nm size g ks.length c {f with at_:=[],same:=false,lost:=true,read:=false})::fs));first
   |have l:=l
    clear n;rcases y with y|y
    ·go_wp2;go_ret2;exact⟨rfl,t.o⟩
    ·have a6:¬k<0:=(by omega);go_wp2;go_ret2;exact⟨rfl,t.o⟩
   |have z:=Q.o _ n
    have k1:=z.at_ u;have k2:=z.len u;have k3:=z.dup u;have t:=ae n;have K:=ae (heap_alloc_new W2 dU);clear n z;go_wp2_with (refine wpList_store_row rfl _ _ 66 rfl W2.heap.size rfl _ rfl _ _ K.o rfl (by kernel_rfl) rfl ?_);intro D F a Z;obtain⟨L,M⟩:=t.o.stored dU a;have F:D.heap[W2.heap.size]? =some (aT (X.aH ks i)):=F;have P:=ae L;have a0:aa (w.heap.size<=D.heap.size):=ae (aw H.o M.size);clear U k1 k2 k3 t K a Z L M H;have a2:=aj D W2.heap.size F;go_wp2;go_ret2;exact⟨rfl,P.o⟩
abbrev DZ:= @Qk.1
abbrev LU:= @Qk.2
theorem Yi:(∀{w0:World} {p pf g c size ct:Nat} {nm:J.B} {ks:List X.Ky} {rows:List X.Row} {f:Fv} {w:World} {s:J.St} {fs:List (Nat×Obj)} {ok:Obj} (h:At w0 p ((pf,ax p nm size g ks.length c f)::fs) s w) (n:∀x∈fs,x.1≠pf) (C:(g,ok)∈fs) (y:bR ok ks) (q:J.Two s) (d:XF nm size ks rows ct s.now) (H:X.bP [52,55] [1,3] f.mode=[48,48]) (i:Nat) (m:i<ks.length) (A:Option Addr) (cb:Nat) (b:J.B) (G:Src w0 p fs (.slice A b.length cb) b) (a:(X.aH ks i).at_+(X.aH ks i).len<=b.length) (F:b.length<=1000000) (r:X.Row) (B:((X.cn ks i rows).find? λr=>decide (X.val ks i r.b=X.val ks i b))=some r),Calls Tryz.prog 25 #[.pointer (some ⟨pf,0,none⟩), .int .i64 (i:Nat), .slice A b.length cb] w λe w'=>∃v,e= .returned (.tuple #[v, .string ⟨(gZ ks rows i r).toArray⟩])/\bT w' (· <w.heap.size) v r.b/\At w0 p ((pf,ax p nm size g ks.length c {f with key:=i,at_:=X.aN nm ks i r,same:=false,lost:=false,last:=X.val ks 0 r.b,read:=true})::fs) s w')/\(∀{w0:World} {p pf g c size ct:Nat} {nm:J.B} {ks:List X.Ky} {rows:List X.Row} {f:Fv} {w:World} {s:J.St} {fs:List (Nat×Obj)} {ok:Obj} (h:At w0 p ((pf,ax p nm size g ks.length c f)::fs) s w) (n:∀x∈fs,x.1≠pf) (C:(g,ok)∈fs) (y:bR ok ks) (q:J.Two s) (d:XF nm size ks rows ct s.now) (H:X.bP [52,55] [1,3] f.mode=[48,48]) (i:Nat) (m:i<ks.length) (A:Option Addr) (cb:Nat) (b:J.B) (G:Src w0 p fs (.slice A b.length cb) b) (a:(X.aH ks i).at_+(X.aH ks i).len<=b.length) (F:b.length<=1000000) (B:((X.cn ks i rows).find? λr=>decide (X.val ks i r.b=X.val ks i b))=none),Calls Tryz.prog 25 #[.pointer (some ⟨pf,0,none⟩), .int .i64 (i:Nat), .slice A b.length cb] w λe w'=>e= .returned (.tuple #[.slice none 0 0, .string ⟨#[50,51]⟩])/\At w0 p ((pf,ax p nm size g ks.length c {f with at_:=[],same:=false,lost:=true,read:=false})::fs) s w'):=by
 refine⟨?z0, ?z1⟩
 case' z0=>intro w0 p pf g c size ct nm ks rows f w s fs ok h n C y q d H i m A cb b G a F r B
 case' z1=>(intro w0 p pf g c size ct nm ks rows f w s fs ok h n C y q d H i m A cb b G a F B;have u:=trivial)
 all_goals
  have b3:=(ai (h.get af)).1;have b3:pf<w.heap.size:=b3;have Z:=ae (bQ (h.get af) [52,55] [1,3] 2 #[.int .u8 1, .int .u8 3] rfl rfl (by decide) w.heap.size rfl);rw[H]at Z;have HA:=ae (h.below ((ak _ w).alloc (aq _) (.cells #[.int .u8 1, .int .u8 3] 32)));have HF:=ae (λw1 (hh:At w0 p ((pf,ax p nm size g ks.length c f)::fs) s w1) w2 (l:w1.grownBy w2 (some pf)) (D:w2.heap[pf]? =some (ax p nm size g ks.length c {f with at_:=[],same:=false,lost:=true,read:=false}))=>cR hh n q l D);have c2:=ae (λw1 (hh:At w0 p ((pf,ax p nm size g ks.length c {f with at_:=[],same:=false,lost:=true,read:=false})::fs) s w1)=>y.2 w1 g (hh.get (ag _ C)));have d6:(i:Int)<(ks.length:Nat):=(by omega);have d5:¬(i:Int)<0:=(by omega);have d7:¬(ks.length:Int)<=(i:Nat):=(by omega);have c6:=d.ks.key _ (X.aY m);have d2:=d.ks.size;have d4:wrap64 (((X.aH ks i).at_:Int)+((X.aH ks i).len:Int))=((X.aH ks i).at_:Int)+((X.aH ks i).len:Int):=IntWalk.wrap64_in _ (by omega);have b8:(X.val ks i b).length=X.lens ks i:=by
   unfold X.val X.lens X.Ky.val;rw[List.length_take,List.length_drop];omega
  have c7:=d.lens m;have c9:=X.ia nm i;have c8:=d.nm;have c5:¬(b.length:Int)<((X.aH ks i).at_:Int)+((X.aH ks i).len:Int):=(by omega);have HP:=ae (λW=>bU nm size (some ⟨g,0,none⟩) ks.length c i (by have:=d.ks.one;omega) (by omega) W);have N:=ae (λw1 (hh:At w0 p ((pf,ax p nm size g ks.length c {f with at_:=[],same:=false,lost:=true,read:=false})::fs) s w1)=>cG (X.aH ks i) (.slice A b.length cb) b bE w1 (G _ _ _ fT hh) a F);have a1:=λw1 (hh:At w0 p ((pf,ax p nm size g ks.length c {f with at_:=[],same:=false,lost:=true,read:=false})::fs) s w1)=>iL hh ⟨(X.pre nm i++X.val ks i b).toArray⟩ (X.pre nm i++X.val ks i b) true (by have:=d.many;omega);rw[d.con.sX d.ks d.rows (by have:=d.ct;omega) m b8,B]at a1;have Y:=ae a1;have e1:=gH (X.pre nm i) (X.val ks i b);have d0:(⟨(X.pre nm i).toArray⟩:ByteArray).size<=1000:=(by rw[bm];omega);have d1:(⟨(X.val ks i b).toArray⟩:ByteArray).size<=1000:=(by rw[bm];omega);have b7:(X.aH ks i).val b=X.val ks i b:=rfl;rw[b7]at N;first
   |have u:=u
    skip
   |have b5:r∈rows:=(X.bD ks i r rows).1 (X.cU B).1
    have a7:=ae (λw1 (hh:At w0 p ((pf,ax p nm size g ks.length c {f with at_:=[],same:=false,lost:=true,read:=false})::fs) s w1) w2 (l:w1.grownBy w2 (some pf)) (D:w2.heap[pf]? =some (ax p nm size g ks.length c {f with key:=i,at_:=[],same:=false,lost:=true,read:=false}))=>cR hh n q l D);have a0:=ae (λw1 (hh:At w0 p ((pf,ax p nm size g ks.length c {f with key:=i,at_:=[],same:=false,lost:=true,read:=false})::fs) s w1)=>zr hh n C y q d m r b5);generalize gZ ks rows i r=st at a0|-;clear b5
  generalize(⟨(X.pre nm i).toArray⟩:ByteArray)=P at HP d0 e1;generalize(⟨(X.val ks i b).toArray⟩:ByteArray)=V at N d1 e1;generalize(⟨(X.pre nm i++X.val ks i b).toArray⟩:ByteArray)=PV at Y e1;clear n C y q d c6 d2 a F G b8 c7 c9 c8 a1 B b7;clear h H;go_enter Tryz.func25,Tryz.ntmps25;go_wp2_with fail;refine Z.o.mono ?_;rintro e W1 ⟨rfl,c4⟩;subst c4;clear Z;refine aL (λX=>At w0 p ((pf,ax p nm size g ks.length c f)::fs) s X/\Below w.heap.size w X) ⟨HA.o,(ak _ w).alloc (aq _) _⟩ ?_;rintro W ⟨ha,b1⟩;clear HA;go_wp2_with fail;refine(kN (ha.get af)).mono ?_;rintro e W2 ⟨⟨_,rfl⟩,l,D⟩;have S:=HF.o _ ha _ l D;have a3:aa (w.heap.size<=W2.heap.size):=ae (aw b1.size l.size);clear l D HF ha b1;have z:=aj W2 pf (S.get (af:(pf,ax p nm size g ks.length c {f with at_:=[],same:=false,lost:=true,read:=false})∈(pf,ax p nm size g ks.length c {f with at_:=[],same:=false,lost:=true,read:=false})::fs));have T:=c2.o _ S;have k1:=T.at_ m;have k2:=T.len m;have k3:=T.dup m;have a2:=ae S;have HZ:=ae (heap_alloc_new W2 dU);clear S T;go_wp2_with (refine wpList_store_row rfl _ _ 66 rfl W2.heap.size rfl _ rfl _ _ HZ.o rfl (by kernel_rfl) rfl ?_);intro t o l d3;obtain⟨a8,b0⟩:=a2.o.stored dU l;have o:t.heap[W2.heap.size]? =some (aT (X.aH ks i)):=o;have U:=ae a8;have a4:aa (w.heap.size<=t.heap.size):=ae (aw a3.o b0.size);clear z k1 k2 k3 a2 HZ l d3 a8 b0 a3;have b2:=aj t W2.heap.size o;go_wp2_with fail;clear b2 c5 d4;refine aJ 8 (.rd 0 (.rd 1 (.rd 2 (.rd 3 (.rd 4 (.rd 6 (.rd 7 (.wr 5 .fin)))))))) (λw'=>At w0 p ((pf,ax p nm size g ks.length c {f with at_:=[],same:=false,lost:=true,read:=false})::fs) s w'/\w'.heap[W2.heap.size]? =some (aT (X.aH ks i))) ⟨U.o.below ((ak _ _).drew),o⟩ ?_;repeat
   refine aA (v:= ?_) (λw' hS=> ?_) (λK E=> ?_);rotate_left
   ·have z:=aj w' pf (hS.1.get (af:(pf,ax p nm size g ks.length c {f with at_:=[],same:=false,lost:=true,read:=false})∈(pf,ax p nm size g ks.length c {f with at_:=[],same:=false,lost:=true,read:=false})::fs));have b2:=aj w' W2.heap.size hS.2;clear hS;go_simp;try with_reducible rfl
   go_simp;refine E _ ?_;clear E K
  refine az (λK E=> ?_);go_simp;refine(HP.o _).mono ?_;rintro e W4 ⟨rfl,a⟩;have a:Below t.heap.size t W4:=((ak _ t).drew).trans a;have I:=ae (U.o.below a);have a5:aa (w.heap.size<=W4.heap.size):=ae (aw a4.o a.size);have b4:=(a.block W2.heap.size (ai o).1).trans o;refine E.out _ _ (λw'=>At w0 p ((pf,ax p nm size g ks.length c {f with at_:=[],same:=false,lost:=true,read:=false})::fs) s w'/\w'.heap[W2.heap.size]? =some (aT (X.aH ks i))) (λ_ h=>h) ⟨I.o,b4⟩ ?_;clear E K;clear a o HP a4 U b4;show wpList _ _ _ _ _ _;go_wp2_with fail;refine(N.o _ I.o).mono ?_;rintro e W5 ⟨rfl,a⟩;have L:=ae (I.o.below a);have a6:aa (w.heap.size<=W5.heap.size):=ae (aw a5.o a.size);clear a N I a5;have z:=aj W5 pf (L.o.get (af:(pf,ax p nm size g ks.length c {f with at_:=[],same:=false,lost:=true,read:=false})∈(pf,ax p nm size g ks.length c {f with at_:=[],same:=false,lost:=true,read:=false})::fs));go_wp2_with fail;refine(Y.o _ L.o).mono ?_;rintro e O ⟨rfl,a⟩;have M:=ae (L.o.below a);have c1:aa (w.heap.size<=O.heap.size):=ae (aw a6.o a.size);clear a z Y L a6;first
   |have u:=u
    skip
   |have Q:O.heap[pf]? =some (ax p nm size g ks.length c {f with at_:=[],same:=false,lost:=true,read:=false}):=M.o.get af
    have hz:=aD Q;have z:=aj O pf Q;have b9:=ae (a7.o _ M.o _ (ay (World.grownBy.refl O (some pf)) 6 (.int .i64 (i:Nat))) (aB Q 6 (.int .i64 (i:Nat))));clear Q a7 M;go_wp2_with fail;refine(a0.o _ b9.o).mono ?_;rintro e W8 ⟨v,rfl,b6,a9⟩;have c0:=ae a9;have c3:=ae (b6.weak (M':=(· <w.heap.size)) (λk hk=>av hk (by simpa [World.setCell] using c1.o)));clear b6 a9 a0 z hz
  go_wp2;go_ret2;first
   |have u:=u
    exact⟨rfl,M.o⟩
    skip
   |exact⟨_,rfl,c3.o,c0.o⟩
abbrev Hc:= @Yi.1
abbrev Hd:= @Yi.2
end
end Go.Proofs.YtipljcmmokaokaaGreat
namespace Go.Proofs.YtipljcmmokaokaaGreat
open Go.RowKit Go.Lib Go.Maps Go.WideMaps Go.Sort
namespace X
theorem wZ {c:Type} [DecidableEq c]:∀(l m:List c),l.Nodup->(∀x∈l,x∈m)->l.length<=m.length
 |[],_,_,_=>Nat.zero_le _
 |a::t,m,h,hs=>by
  obtain⟨h1,d⟩:=List.nodup_cons.1 h;have ha:=hs a af;have:=wZ t (m.erase a) d (λx b=>(List.mem_erase_of_ne (λ(e:x=a)=>h1 (by rw[<-e];exact b))).2 (hs x (ag _ b)));rw[List.length_erase_of_mem ha]at this;have:0<m.length:=List.length_pos_of_mem ha;rw[List.length_cons];omega
def lR (nm:B) (ks:List Ky) (rows:List Row) (c:Nat):List B:=own nm::((if 0<c then [cK nm]else [])++(List.range ks.length).flatMap λi=>rows.map (aN nm ks i))
theorem Ea (nm:B) (ks:List Ky) (rows:List Row) (c:Nat):(lR nm ks rows c).length=1+(if 0<c then 1 else 0)+ks.length*rows.length:=by
 have h:∀l:List Nat,(l.flatMap λi=>rows.map (aN nm ks i)).length=l.length*rows.length:=λl=>by
  induction l with
  |nil=>simp
  |cons a t b=>rw[List.flatMap_cons,List.length_append,b,List.length_map,List.length_cons,Nat.succ_mul];omega
 unfold lR;rw[List.length_cons,List.length_append,h,List.length_range];split<;>simp<;>omega
section
variable {ks : List Ky} {size time : Nat} {rows : List Row} {nm a : B} {c : Nat} {now : List (B × B)}
theorem uj {k:B}:k∈lR nm ks rows c↔k=X.own nm\/(0<c/\k=cK nm)\/∃i,i<ks.length/\∃r∈rows,k=aN nm ks i r:=by
 unfold lR;rw[List.mem_cons,List.mem_append,List.mem_flatMap];have h1:k∈(if 0<c then [cK nm]else [])↔0<c/\k=cK nm:=by
  split
  ·rename_i h;simp[h]
  ·rename_i h;simp[h]
 rw[h1];constructor
 ·rintro(h|h|⟨i,a,d⟩)
  ·exact .inl h
  ·exact .inr (.inl h)
  ·obtain⟨r,b,e⟩:=List.mem_map.1 d;exact .inr (.inr ⟨i,List.mem_range.1 a,r,b,e.symm⟩)
 ·rintro(h|h|⟨i,a,r,b,e⟩)
  ·exact .inl h
  ·exact .inr (.inl h)
  ·exact .inr (.inr ⟨i,List.mem_range.2 a,List.mem_map.2 ⟨r,b,e.symm⟩⟩)
theorem iF.mem_keys (h:iF nm a ks rows c now) (j:aQ ks size time rows) (n:time<4294967296) (o:1<=ks.length) (k:B):J.look now k≠none↔k∈lR nm ks rows c:=by
 rw[uj];constructor
 ·intro b;rcases h.oth k b with e|e|⟨p,e⟩|⟨i,p,t,h1,g,l,e⟩
  ·exact .inl e
  ·refine .inr (.inl ⟨?_,e⟩);subst e;rw[h.tim]at b;by_cases f:0<c
   ·exact f
   ·rw[if_neg f]at b;exact absurd rfl b
  ·subst e;cases hl:J.look now (cy nm 0 p 0)with
   |none=>exact absurd hl b
   |some v=>
    obtain⟨r,d,e1,_⟩:=(h.pri p v).1 hl;refine .inr (.inr ⟨0,by omega,r,d, ?_⟩);unfold aN;rw[e1,j.t0 r d]
  ·subst e;cases hl:J.look now (cy nm i p t)with
   |none=>exact absurd hl b
   |some v=>
    obtain⟨r,d,e1,e2,_⟩:=(h.alt i p t v h1 g l).1 hl;refine .inr (.inr ⟨i,g,r,d, ?_⟩);unfold aN;rw[e1,e2]
 ·rintro(e|⟨f,e⟩|⟨i,m,r,d,e⟩)
  ·subst e;rw[h.own];intro e;cases e
  ·subst e;rw[h.tim,if_pos f];intro e;cases e
  ·subst e;exact h.CJ j n m d
theorem yz (f:aQ ks size time rows) (o:time<4294967296) (m:ks.length<=256):(lR nm ks rows c).Nodup:=by
 have g:∀k∈(List.range ks.length).flatMap (λi=>rows.map (aN nm ks i)),∃i r,k=aN nm ks i r:=λk m=>by
  obtain⟨i,_,d⟩:=List.mem_flatMap.1 m;obtain⟨r,_,e⟩:=List.mem_map.1 d;exact⟨i,r,e.symm⟩
 unfold lR;refine List.nodup_cons.2 ⟨λt=> ?_,List.nodup_append.2 ⟨by split<;>simp, ?_,λx a y b e=> ?_⟩⟩
 ·rcases List.mem_append.1 t with h|h
  ·split at h
   ·simp only[List.mem_singleton]at h;exact vN nm h
   ·cases h
  ·obtain⟨i,r,e⟩:=g _ h;exact fA nm _ _ _ e
 ·refine List.pairwise_flatMap.2 ⟨λi d=> ?_, ?_⟩
  ·rw[List.pairwise_map];have l:=List.mem_range.1 d;refine List.Pairwise.imp_of_mem (λ{x y} a b u=> ?_) (f.CH l);intro e;obtain⟨_,e1,e2⟩:=nR (by omega) (by omega) (f.t32 o a l) (f.t32 o b l) (λe=>by subst e;exact f.t0 x a) (λe=>by subst e;exact f.t0 y b) e;rcases u with h|h
   ·exact h e1
   ·exact h e2
  ·refine List.Pairwise.imp_of_mem (λ{i j} d s p=> ?_) (List.nodup_range (n:=ks.length));intro x a y b e;obtain⟨r,w,rfl⟩:=List.mem_map.1 a;obtain⟨q,v,rfl⟩:=List.mem_map.1 b;have h1:=List.mem_range.1 d;have g:=List.mem_range.1 s;exact p (lB (by omega) (by omega) e)
 ·split at a
  ·simp only[List.mem_singleton]at a;subst a;obtain⟨i,r,e2⟩:=g y b;exact iE nm _ _ _ (e.trans e2)
  ·cases a
theorem LV {m:List (B×B)} (h:J.sA m):(m.map (·.1)).Nodup:=by
 refine List.pairwise_map.2 (List.Pairwise.imp (λ{x y} a e=> ?_) h);rw[e]at a;exact List.lt_irrefl _ a
theorem lS {m:List (B×B)} (h:J.sA m) (k:B):k∈m.map (·.1)↔J.look m k≠none:=by
 constructor
 ·intro a;obtain⟨⟨d,v⟩,b,rfl⟩:=List.mem_map.1 a;rw[J.eU m d v h b];intro e;cases e
 ·intro c;cases hl:J.look m k with
  |none=>exact absurd hl c
  |some v=>exact List.mem_map.2 ⟨_,J.eI m k v hl,rfl⟩
theorem iF.count (h:iF nm a ks rows c now) (b:aQ ks size time rows) (d:time<4294967296) (h1:1<=ks.length) (g:ks.length<=256):now.length=1+(if 0<c then 1 else 0)+ks.length*rows.length:=by
 rw[<-Ea nm ks rows c];have e:now.length=(now.map (·.1)).length:=(List.length_map ..).symm;rw[e];refine Nat.le_antisymm (wZ _ _ (LV h.asc) (λx f=>(h.mem_keys b d h1 x).1 ((lS h.asc x).1 f))) (wZ _ _ (yz b d g) (λx f=>(lS h.asc x).2 ((h.mem_keys b d h1 x).2 f)))
theorem iF.Jg (h:iF nm a ks rows c now) (d:aQ ks size time rows) (f:eC ks size) {n:Nat} (j:∀i,i<ks.length->lens ks i<=n) {k:B} (g:k∈now.map (·.1)) (m:time<4294967296):k.length<=nm.length+n+7:=by
 rcases uj.1 ((h.mem_keys d m f.one.1 k).1 ((lS h.asc k).1 g))with e|⟨_,e⟩|⟨i,b,r,l,e⟩
 ·subst e;rw[ly];omega
 ·subst e;rw[sG];omega
 ·subst e;have h1:=cZ nm i (val ks i r.b) (r.t i);have o:=bc (d.fit r l) b;have p:=j i b;show(cy nm i _ _).length<=_;omega
end
end X
namespace X
section
variable {ks : List Ky} {size time : Nat} {rows : List Row} {nm a : B} {c n : Nat} {now : List (B × B)} {P : B -> B -> Prop} {E : Nat -> B -> Nat -> B -> Prop}
theorem tj (h:fo nm a ks.length c (lens ks) P E now) {i:Nat} (h0:i≠0) (b:i<ks.length) (e:∀p t q,E i p t q↔Ee ks rows i p t q) (f:aQ ks size time rows) (g:time<4294967296) {r:Row} (d:r∈rows):J.look now (aN nm ks i r)=some (val ks 0 r.b):=
 (h.alt i (val ks i r.b) (r.t i) (val ks 0 r.b) (by omega) b (f.t32 g d b)).2 ((e _ _ _).2 ⟨r,d,rfl,rfl,rfl,b⟩)
theorem LW (h:fo nm a ks.length c (lens ks) P E now) (I:ks.length<=256) {i:Nat} (h0:i≠0) (f:i<ks.length) (m:∀p t q,E i p t q↔Ee ks rows i p t q) (g:aQ ks size time rows) (n:time<4294967296) (v:B) (u:v.length=lens ks i):
  keysOf now ⟨(pre nm i++v).toArray⟩=((cn ks i rows).filter λr=>decide (val ks i r.b=v)).map (aN nm ks i):=by
 unfold keysOf;rw[ru];refine lA _ _ (List.Pairwise.filter _ (List.pairwise_map.2 h.asc)) ?_ (λk=> ?_)
 ·rw[List.pairwise_map];refine List.Pairwise.imp_of_mem (λ{x y} F H G=> ?_) (List.Pairwise.filter _ (lD ks i rows (g.CH f)));exact(zU g n f ((bD ks i x rows).1 (List.mem_filter.1 F).1) ((bD ks i y rows).1 (List.mem_filter.1 H).1)).2 G
 ·rw[List.mem_filter];constructor
  ·rintro⟨z,b⟩;refine List.mem_map.2 ?_;obtain⟨⟨l,x⟩,C,rfl⟩:=List.mem_map.1 z;have b:Lib.hasPrefix l (pre nm i++v)=true:=b;have s:=J.eU now l x h.asc C;rcases h.oth l (by rw[s];intro e;cases e)with rfl|rfl|⟨p,rfl⟩|⟨j',p,t,j1,j2,CM,rfl⟩
   ·rw[pE]at b;cases b
   ·rw[vO]at b;cases b
   ·rw[fe (by omega) (by decide) (by omega)]at b;cases b
   ·by_cases o:i=j'
    ·subst o;have w:=(m _ _ _).1 ((h.alt i p t x j1 j2 CM).1 s);obtain⟨r,d,e1,e2,e3,_⟩:=w;have j:p.length=lens ks i:=(by rw[<-e1,bc (g.fit r d) f]);rw[dP (by omega),u,<-j,List.take_length]at b;refine⟨r,List.mem_filter.2 ⟨(bD ks i r rows).2 d,by rw[e1];exact b⟩, ?_⟩;show cy nm i (val ks i r.b) (r.t i)=_;rw[e1,e2]
    ·rw[fe (by omega) (by omega) o]at b;cases b
  ·intro A;obtain⟨r,D,rfl⟩:=List.mem_map.1 A;obtain⟨d,hd⟩:=List.mem_filter.1 D;have d:=(bD ks i r rows).1 d;have j:(val ks i r.b).length=lens ks i:=bc (g.fit r d) f;refine⟨List.mem_map.2 ⟨_,J.eI now _ _ (tj h h0 f m g n d),rfl⟩, ?_⟩;show Lib.hasPrefix (cy nm i _ _) _=true;rw[dP (by omega),u,<-j,List.take_length];exact hd
def Ql (nm a:B) (ks:List Ky) (c:Nat) (rows:List Row) (p0:B) (j:Nat) (now:List (B×B)):Prop:=
 fo nm a ks.length c (lens ks) (Pp ks (iM ks rows p0)) (λi p t q=>if i<=j then Ee ks (iM ks rows p0) i p t q else Ee ks rows i p t q) now
theorem UE (f:aQ ks size time rows) {p0:B} {o:Row} (c:o∈rows) (d:val ks 0 o.b=p0) {i:Nat} (h1:1<=i) (b:i<ks.length) (p:B) (t:Nat) (q:B):
  Ee ks (iM ks rows p0) i p t q↔¬(p=val ks i o.b/\t=o.t i)/\Ee ks rows i p t q:=by
 constructor
 ·rintro⟨r,j,e1,e2,e3,_⟩;obtain⟨a,g⟩:=iz.1 j;refine⟨λhh=> ?_,r,a,e1,e2,e3,b⟩;have:r=o:=PU (f.tm i h1 b) a c (e2.trans hh.2);subst this;exact g d
 ·rintro⟨h,r,a,e1,e2,e3,_⟩;refine⟨r,iz.2 ⟨a,λe=> ?_⟩,e1,e2,e3,b⟩;have:r=o:=rv f.prim a c (e.trans d.symm);subst this;exact h ⟨e1.symm,e2.symm⟩
theorem uk (a:aQ ks size time rows) {p0:B} {j:Nat}:∀i p t q,(if i<=j then Ee ks (iM ks rows p0) i p t q else Ee ks rows i p t q)->p.length=lens ks i:=λi p t q hh=>by
 split at hh
 ·obtain⟨r,h1,rfl,_,_,b⟩:=hh;exact bc (a.fit r (iz.1 h1).1) b
 ·exact GS a hh
theorem He (h:iF nm a ks rows c now) (e:eC ks size) (g:aQ ks size c rows) (p0:B):Ql nm a ks c rows p0 0 (J.del now (cy nm 0 p0 0)):=by
 refine(fo.Om h (by have:=e.one;omega) p0).same (λp v=> ?_) (λi p t q j k=>by rw[if_neg (by omega)]) (uk g);constructor
 ·rintro⟨r,f,e1,e2⟩;obtain⟨b,d⟩:=iz.1 f;exact⟨by rw[<-e1];exact d,r,b,e1,e2⟩
 ·rintro⟨d,r,b,e1,e2⟩;exact⟨r,iz.2 ⟨b,by rw[e1];exact d⟩,e1,e2⟩
theorem LX (k:eC ks size) (b:aQ ks size c rows) (g:c<4294967296) {p0:B} {o:Row} (f:o∈rows) (l:val ks 0 o.b=p0) {j:Nat} (d:j+1<ks.length) (h:Ql nm a ks c rows p0 j now):Ql nm a ks c rows p0 (j+1) (J.del now (aN nm ks (j+1) o)):=by
 refine(fo.Jj h (by have:=k.one;omega) (i0:=j+1) ⟨by omega,d⟩ (val ks (j+1) o.b) (t0:=o.t (j+1)) (b.t32 g f d)).same (λ_ _=>Iff.rfl) (λi p t q m n=> ?_) (uk b);by_cases e:i=j+1
 ·subst e;rw[if_pos (Nat.le_refl _),if_neg (by omega),UE b f l m n];exact⟨λhh=>⟨λx=>hh.1 ⟨x.2.1,x.2.2⟩,hh.2⟩,λhh=>⟨λx=>hh.1 ⟨rfl,x.1,x.2⟩,hh.2⟩⟩
 ·by_cases e2:i<=j
  ·rw[if_pos e2,if_pos (by omega)];exact⟨λhh=>⟨λx=>e x.1,hh⟩,λhh=>hh.2⟩
  ·rw[if_neg e2,if_neg (by omega)];exact⟨λhh=>⟨λx=>e x.1,hh⟩,λhh=>hh.2⟩
theorem Qm {p0:B} {j:Nat} (e:ks.length<=j+1) (d:aQ ks size c rows) (h:Ql nm a ks c rows p0 j now):iF nm a ks (iM ks rows p0) c now:=by
 refine fo.same h (λ_ _=>Iff.rfl) (λi p t q f g=>by rw[if_pos (by omega)]) (λi p t q hh=> ?_);obtain⟨r,h1,rfl,_,_,b⟩:=hh;exact bc (d.fit r (iz.1 h1).1) b
end
end X
namespace R
theorem lC (p:B) (x y:B):(p++x).isPrefixOf (p++y)=x.isPrefixOf y:=by
 induction p with
 |nil=>rfl
 |cons a p b=>simp only[List.cons_append,List.isPrefixOf,b,beq_self_eq_true,Bool.true_and]
theorem JL (nm:B) (x:B):Lib.hasPrefix (nm++0::x) (nm++[0])=true:=by
 unfold Lib.hasPrefix;rw[lC];rfl
theorem wP (nm a:B) (rows:Rows):keysOf (acP nm (some a) rows) ⟨(nm++[0]).toArray⟩=own nm::rows.map λr=>key nm r.1:=by
 unfold keysOf acP;have e:(⟨(nm++[0]).toArray⟩:ByteArray).data.toList=nm++[0]:=rfl;rw[e,List.map_cons,List.map_map];rw[List.filter_eq_self.2 (λk b=>by
  rcases List.mem_cons.1 b with rfl|b
  ·exact JL nm [65]
  ·obtain⟨r,_,rfl⟩:=List.mem_map.1 b;show Lib.hasPrefix (key nm r.1) _=true;unfold key recs;rw[List.append_assoc];exact JL nm (82::cp r.1))]
 rfl
end R
end Go.Proofs.YtipljcmmokaokaaGreat
namespace Go.Proofs.YtipljcmmokaokaaGreat
open Go.RowKit Go.Lib Go.Maps Go.WideMaps Go.Sort
set_option maxRecDepth 100000
abbrev xM (n:Nat):Value:= .int .i64 (n:Nat)
theorem Tryz.aai:(Tryz.prog.info? 52).map (λi=>(i.zero,i.size,i.bytes))=some (some (.agg #[.string ⟨#[]⟩, .slice none 0 0]),2,40):=by kernel_rfl
abbrev HP:=X.Row×Value
def bp (l:List HP):List Value:=l.flatMap λp=>[encStr p.1.b,p.2]
theorem um (l:List HP):(bp l).length=l.length*2:=by induction l with|nil=>rfl|cons a t b=>simp[bp]at*;omega
theorem uo (a b:List HP):bp (a++b)=bp a++bp b:=by simp[bp]
theorem jF:∀(l:List HP) (k:Nat) (h:k<l.length),(bp l)[k*2]? =some (encStr l[k].1.b)/\(bp l)[k*2+1]? =some l[k].2
 |[],k,h=>by simp at h
 |a::t,0,h=>⟨rfl,rfl⟩
 |a::t,k+1,h=>by
  have:=jF t k (by simpa using h);rw[show(k+1)*2=k*2+2 by omega]
  simpa [bp] using this
def gj (v:Value):Prop:=∃A n c,v= .slice A n c
theorem Eb (l:List HP) (h:∀x∈l,gj x.2):∀u∈bp l,u.oneCell'=true:=by
 intro u a;simp only[bp,List.mem_flatMap,List.mem_cons,List.not_mem_nil,or_false]at a;obtain⟨p,b,rfl|rfl⟩:=a
 ·rfl
 ·obtain⟨A,n,c,e⟩:=h p b;rw[e];rfl
theorem Ba (l:List HP) (i:Nat):bp (l.drop i)=(bp l).drop (i*2):=by
 induction i generalizing l with
 |zero=>simp
 |succ i b=>
  cases l with
  |nil=>simp[bp]
  |cons a t=>rw[List.drop_succ_cons,b,show(i+1)*2=i*2+2 by omega];simp[bp]
def lT (w:World) (M:Nat->Prop) (v:Value) (ts:List Nat):Prop:=∃g c,v= .slice (some ⟨g,0,none⟩) ts.length c/\g<w.heap.size/\¬M g/\∀j (h:j<ts.length),w.cell? ⟨g,j,none⟩=some (xM ts[j])
def mH (w:World) (A:Option Addr) (l:List HP):Prop:=0<l.length->∃g o,A=some ⟨g,o,none⟩/\g<w.heap.size/\∀j u,(bp l)[j]? =some u->w.cell? ⟨g,o+j,none⟩=some u
def rD (w:World) (A:Option Addr) (l:List HP):Prop:=0<l.length->∃g,A=some ⟨g,0,none⟩/\g<w.heap.size/\∀j u,(bp l)[j]? =some u->w.cell? ⟨g,j,none⟩=some u
theorem rD.o {w:World} {A:Option Addr} {l:List HP} (h:rD w A l):mH w A l:=λb=>by
 obtain⟨g,e,h1,a⟩:=h b;exact⟨g,0,e,h1,λj u c=>by rw[Nat.zero_add];exact a j u c⟩
theorem mH.below {w w':World} {A:Option Addr} {l:List HP} (h:mH w A l) (a:Below w.heap.size w w'):mH w' A l:=λc=>by
 obtain⟨g,o,e,h1,b⟩:=h c;exact⟨g,o,e,av h1 a.size,λj u d=>(a.cell (p:=⟨g,o+j,none⟩) h1).trans (b j u d)⟩
theorem rD.below {w w':World} {A:Option Addr} {l:List HP} (h:rD w A l) (a:Below w.heap.size w w'):rD w' A l:=λc=>by
 obtain⟨g,e,h1,b⟩:=h c;exact⟨g,e,av h1 a.size,λj u d=>(a.cell (p:=⟨g,j,none⟩) h1).trans (b j u d)⟩
structure lU (w:World) (M:Nat->Prop) (v:Value) (l:List HP):Prop where
 row:(v= .slice none 0 0/\l=[])\/∃g c,v= .slice (some ⟨g,0,none⟩) l.length c/\l.length<=c/\g<w.heap.size/\¬M g/\∀j u,(bp l)[j]? =some u->w.cell? ⟨g,j,none⟩=some u
 tm:∀x∈l,lT w M x.2 x.1.ts
section
variable {w w' : World} {M M' : Nat -> Prop} {v : Value} {l : List HP} {ts : List Nat}
theorem lT.sl (h:lT w M v ts):gj v:=by obtain⟨g,c,e,_⟩:=h;exact⟨_,_,_,e⟩
theorem lT.keep (h:lT w M v ts) (k:w.heap.size<=w'.heap.size) (f:∀g,g<w.heap.size->¬M g->w'.heap[g]? =w.heap[g]?) (d:∀g,g<w.heap.size->M' g->M g):lT w' M' v ts:=by
 obtain⟨g,c,e,h1,a,b⟩:=h;exact⟨g,c,e,av h1 k,λhh=>a (d g h1 hh),λj i=>(World.cell?_of_block (f g h1 a)).trans (b j i)⟩
theorem lT.below (h:lT w M v ts) (a:Below w.heap.size w w'):lT w' M v ts:=h.keep a.size (λg b _=>a.block g b) (λ_ _ h=>h)
theorem lU.keep (h:lU w M v l) (i:w.heap.size<=w'.heap.size) (f:∀g,g<w.heap.size->¬M g->w'.heap[g]? =w.heap[g]?) (d:∀g,g<w.heap.size->M' g->M g):lU w' M' v l:=by
 refine⟨?_,λx n=>(h.tm x n).keep i f d⟩;rcases h.row with h|⟨g,c,e,h1,a,b,k⟩
 ·exact .inl h
 ·exact .inr ⟨g,c,e,h1,av a i,λhh=>b (d g a hh),λj u m=>(World.cell?_of_block (f g a b)).trans (k j u m)⟩
theorem lU.below (h:lU w M v l) (a:Below w.heap.size w w'):lU w' M v l:=h.keep a.size (λg b _=>a.block g b) (λ_ _ h=>h)
theorem lU.weak (h:lU w M v l) (a:∀k,M' k->M k):lU w M' v l:=h.keep (aq _) (λ_ _ _=>rfl) (λg _ hh=>a g hh)
theorem lU.dV:lU w M (.slice none 0 0) []:=⟨.inl ⟨rfl,rfl⟩,λx a=>by cases a⟩
theorem lU.sls (h:lU w M v l):∀x∈l,gj x.2:=λx a=>(h.tm x a).sl
theorem lU.aU (h:lU w M v l):∃A c,v= .slice A l.length c/\l.length<=c/\rD w A l/\(A=none->c=0)/\(∀b o,A=some ⟨b,o,none⟩->o=0):=by
 rcases h.row with⟨rfl,rfl⟩|⟨g,c,rfl,h1,a,f,d⟩
 ·exact⟨none,0,rfl,aq _,λh=>absurd h (by simp),λ_=>rfl,λ_ _ e=>by cases e⟩
 ·exact⟨_,c,rfl,h1,λ_=>⟨g,rfl,a,d⟩,λe=>(by cases e),λb o e=>by injection e with e;injection e with _ e;exact e.symm⟩
theorem rE {base:Nat} (h:w.ownsRow base 52 2 v l.length (bp l)) (c:∀k,M k->k<base) (i:∀x∈l,lT w M x.2 x.1.ts):lU w M v l:=by
 refine⟨?_,i⟩;have b:=h;rcases h.2 with⟨rfl,h0⟩|⟨g,cap,cur,rfl,n,d,h1,m⟩
 ·exact .inl ⟨by rfl,List.eq_nil_of_length_eq_zero h0⟩
 ·refine .inr ⟨g,cap,rfl,h1,(ai d).1,λf=>by have:=c g f;omega,λj u a=> ?_⟩;have e:j<l.length*2:=by
   have:=(List.getElem?_eq_some_iff.1 a).1;rw[um]at this;exact this
  rw[b.cellAt j e,a]
end
theorem xa (w:World) (base:Nat) (v:Value) (n:Nat) (l:List HP) (a:w.ownsRow base 52 2 v n (bp l)) (A:Option Addr) (m c:Nat) (x:List HP) (r:mH w A x) (e:x.length=m) (h1:∀y∈x,gj y.2)
  (B:n+m<=100000000) (i:base<=w.heap.size) (b:TypeId):
  ∃v' w',(Builtin.append_ #[31,31] b #[v, .slice A m c]).run Tryz.prog w= .ok v' w'/\w'.ownsRow base 52 2 v' (n+m) (bp (l++x))/\w.grownBy w' v.ownBlock/\(v'.ownBlock=v.ownBlock\/v'.ownBlock=some w.heap.size):=by
 obtain⟨i0,d,s,t,z⟩:=info_parts Tryz.aai;rcases Nat.eq_zero_or_pos m with h0|h0
 ·subst h0;obtain rfl:x=[]:=List.eq_nil_of_length_eq_zero e;exact⟨v,w,jw w base _ b _ i0 2 Tryz.underlying31 d v n _ a A c,by simpa using a,World.grownBy.refl w _, .inl rfl⟩
 ·obtain⟨g,o,rfl,_,k⟩:=r (by omega);obtain⟨v',w',p,h1,f,_,h⟩:=run_append_own_at (P:=Tryz.prog) w base 31 b 52 i0 (.agg #[.string ⟨#[]⟩, .slice none 0 0]) 2 40 Tryz.underlying31 d s t z rfl (by decide) v n (bp l) a ⟨g,o,none⟩ m c (bp x) (by rw[um,e])
   (λj u q=>by rw[fB];exact k j u q) (Eb x h1) (by unfold maxLen;omega) (by omega) i
  exact⟨v',w',p,by rw[uo];exact h1,f,h⟩
theorem gJ {A:Option Addr} {l:List HP} {n c:Nat} (E:l.length=n) (i j:Nat) (C:i<=j) (D:j<=n) (B:n<=c) (d a:Option Value)
  (v:d=some (.int .i64 i)\/(d=none/\i=0)) (r:a=some (.int .i64 j)\/(a=none/\j=n)) (z:∀b o,A=some ⟨b,o,none⟩->o=0):
  ∃f,(∀w,(Instr.sliceAt 31 (.slice A n c) d a none).run Tryz.prog w= .ok (.slice f (j - i) (c - i)) w)/\∀w,rD w A l->mH w f ((l.take j).drop i):=by
 have m:∀w,(Instr.sliceBounds true n c d a none).run Tryz.prog w= .ok (i,j,c) w:=by
  intro w;have e1:(0:Int)<=(i:Int):=(by omega);have e2:(i:Int)<=(j:Int):=(by omega);have e3:(j:Int)<=(c:Int):=(by omega);have e0:(0:Int)<=(j:Int):=(by omega);rcases v with rfl|⟨rfl,rfl⟩<;>rcases r with rfl|⟨rfl,rfl⟩
  ·simp[Instr.sliceBounds,run_sliceBound _ _ _ _ _ e1 e2,run_sliceBound _ _ _ _ _ e0 e3]
  ·simp[Instr.sliceBounds,run_sliceBound _ _ _ _ _ e1 e2]
  ·simp[Instr.sliceBounds,run_sliceBound _ _ _ _ _ e0 e3]
  ·simp[Instr.sliceBounds]
 have y:∀w,(sizeOf (Tryz.prog.elem 31)).run Tryz.prog w= .ok 2 w:=λw=>by kernel_rfl
 have x:∀w,(Instr.sliceAt 31 (.slice A n c) d a none).run Tryz.prog w= .ok (sliced A i j c 2) w:=by
  intro w;rw[run_sliceAt_slice _ _ _ _ _ _ Tryz.underlying31,run_slice_any _ _ _ _ _ Tryz.underlying31,m];simp[Result.andThen,y]
 refine⟨_,x,λw h t=> ?_⟩;rw[List.length_drop,List.length_take]at t;obtain⟨g,rfl,q,p⟩:=h (by omega);refine⟨g,i*2, ?_,q,λk u e=> ?_⟩
 ·rw[if_neg (by omega)];simp[fB]
 ·rw[Ba,List.getElem?_drop]at e;refine p _ _ ?_;have s:=(List.getElem?_eq_some_iff.1 e).1;rw[<-e]
  conv=>lhs;rw[<-List.take_append_drop j l,uo]
  rw[List.getElem?_append_left s]
theorem tk {base:Nat} (X:World) (a:base<=X.heap.size):(X.alloc (.cells #[] 52)).ownsRow base 52 2 (.slice (some ⟨X.heap.size,0,none⟩) 0 0) 0 (bp []):=
 ⟨rfl, .inr ⟨X.heap.size,0,#[],rfl,a,heap_alloc_new X _,aq _,Nat.zero_le _,rfl,rfl⟩⟩
theorem rF (V:World) (r:X.Row) (a:Value):mH (V.alloc (.cells #[encStr r.b,a] 52)) (some ⟨V.heap.size,0,none⟩) [(r,a)]:=λ_=>by
 refine⟨V.heap.size,0,rfl,by simp,λj u b=> ?_⟩;rw[Nat.zero_add,cell_of_row _ V.heap.size j _ _ _ (heap_alloc_new V _)];rw[<-b];simp[bp]
theorem mH.kept {w w':World} {g:Nat} {l:List HP} {row:Option Nat} (h:mH w (some ⟨g,0,none⟩) l) (a:w.grownBy w' row) (d:some g≠row):mH w' (some ⟨g,0,none⟩) l:=λc=>by
 obtain⟨g',o,e,h1,b⟩:=h c;injection e with e;injection e with e1 e2 e3;subst e1 e2;exact⟨g,0,rfl,av h1 a.size,λj u f=>(World.cell?_of_block (a.block g h1 d)).trans (b j u f)⟩
theorem ep {w:World} {o:Oper} {a:Act} {K:Act->World->Prop} {Q:Exit->Act->World->Prop} (s x:Operand) (k:o.op= .call {callee:= .builtin .append,args:=#[s,x],argTypes:=#[31,31]})
  (base:Nat) (v:Value) (n:Nat) (l:List HP) (t:a.eval s=v) (p:w.ownsRow base 52 2 v n (bp l)) (A:Option Addr) (m c:Nat) (b:List HP) (u:a.eval x= .slice A m c) (q:mH w A b) (j:b.length=m) (h1:∀y∈b,gj y.2)
  (g:n+m<=100000000) (i:base<=w.heap.size)
  (h:∀v' w',w'.ownsRow base 52 2 v' (n+m) (bp (l++b))->w.grownBy w' v.ownBlock->(v'.ownBlock=v.ownBlock\/v'.ownBlock=some w.heap.size)->K (a.put o.dst v') w'):o.wp Tryz.prog a w K Q:=by
 obtain⟨v',w',r,d,e,f⟩:=xa w base v n l p A m c b q j h1 g i o.type;unfold Oper.wp execOp;simp only[k,resolve,invoke,builtin,Sem.run_bind,Sem.run_pure,Result.andThen_ok,List.map_toArray,List.map_cons,List.map_nil,t,u,r];exact h v' w' d e f
theorem eY {w:World} {ops:Array Oper} {rest:List Oper} {o:Oper} {a:Act} {Q:Exit->Act->World->Prop} (k:o.guard=none) (s x:Operand) (q:o.op= .call {callee:= .builtin .append,args:=#[s,x],argTypes:=#[31,31]})
  (base:Nat) (v:Value) (n:Nat) (l:List HP) (u:a.eval s=v) (r:w.ownsRow base 52 2 v n (bp l)) (A:Option Addr) (m c:Nat) (b:List HP) (z:a.eval x= .slice A m c) (t:mH w A b) (p:b.length=m) (h1:∀y∈b,gj y.2)
  (i:n+m<=100000000) (j:base<=w.heap.size)
  (h:∀v' w',w'.ownsRow base 52 2 v' (n+m) (bp (l++b))->w.grownBy w' v.ownBlock->(v'.ownBlock=v.ownBlock\/v'.ownBlock=some w.heap.size)->wpList Tryz.prog ops Q rest (a.put o.dst v') w'):wpList Tryz.prog ops Q (o::rest) a w:=
 wpList_plain k λ_ g=>ep s x q base v n l u r A m c b z t p h1 i j λv' w' d e f=>g _ _ (h v' w' d e f)
section
variable {W F : World} {base n sz : Nat} {e : TypeId} {v : Value} {D : List Value}
theorem kO (h:W.ownsRow base e sz v n D) (d:∀k,v.ownBlock=some k->F.heap[k]? =W.heap[k]?):F.ownsRow base e sz v n D:=by
 obtain⟨a,h|⟨g,cap,cur,rfl,b,c,h1⟩⟩:=h
 ·exact⟨a, .inl h⟩
 ·exact⟨a, .inr ⟨g,cap,cur,rfl,b,(d g rfl).trans c,h1⟩⟩
theorem cN (h:W.ownsRow base e sz v n D) (a:Below W.heap.size W F):F.ownsRow base e sz v n D:=kO h (λk b=>a.block k (h.lt k b).2)
theorem zu (h:W.ownsRow base e sz v n D) {k:Nat} (a:v.ownBlock=some k):∃cur,W.heap[k]? =some (.cells cur e (0,0)):=by
 rcases h.2 with⟨rfl,_⟩|⟨g,cap,cur,rfl,_,b,_⟩
 ·cases a
 ·have:g=k:=(by simpa [Value.ownBlock] using a);subst this;exact⟨cur,b⟩
theorem JM (h:W.ownsRow base e sz v n D) {b:Nat} {cs:Array Value} {t:TypeId} {d:Nat×Nat} (a:W.heap[b]? =some (.cells cs t d)) (f:e≠t):v.ownBlock≠some b:=λhh=>by
 obtain⟨c2,c⟩:=zu h hh;rw[c]at a;injection a with a;injection a with _ a;exact f a
theorem xb (h:W.ownsRow base e sz v n D) {b:Nat} {cs:Array Value} {t:TypeId} {c:Nat×Nat} (a:W.heap[b]? =some (.cells cs t c)) (f:e≠t) (d:W.grownBy F v.ownBlock):F.heap[b]? =some (.cells cs t c):=
 (d.block b (ai a).1 (λhh=>JM h a f hh.symm)).trans a
end
abbrev gz (m:X.M) (g c:Nat) (v:Value):Obj:=
 .cells #[.string ⟨#[102]⟩, .int .i64 (m.size:Nat), .slice (some ⟨g,0,none⟩) m.ks.length c, .bool m.there,v, .int .i64 (m.time:Nat), .int .u8 (m.mode:Nat), .bool m.ord, .int .i64 (m.key:Nat), .bool m.lost, .string ⟨m.value.toArray⟩, .int .i64 (m.at_:Nat), .bool m.same, .string ⟨m.last.toArray⟩, .bool m.read, .string ⟨m.written.toArray⟩] 34 (0,0)
structure fH (w:World) (q g c:Nat) (M:Nat->Prop) (m:X.M) (v:Value) (l:List HP):Prop where
 row:w.heap[q]? =some (gz m g c v)
 ks:dJ w g m.ks
 ng:g≠q
 rows:lU w M v l
 nq:M q
 eq:l.map (·.1)=m.rows
def LY (dB:J.B) (a b c:Nat) (mode:Nat):J.B:=if mode=0 then [52,50]else if mode≠a/\mode≠b/\mode≠c then dB else []
theorem UF {d:J.B} {a b c:Nat} {mode:Nat} {l:List Nat} (e:∀x,x∈l↔x=a\/x=b\/x=c) (f:d≠X.good) (h:X.bP d l mode=X.good):LY d a b c mode=[]:=by
 unfold X.bP at h;unfold LY;split
 ·rename_i h1;rw[if_pos h1]at h;exact absurd h (by decide)
 ·rename_i h1;rw[if_neg h1]at h
  split
  ·rename_i h2;rw[if_neg (by rw[e];omega)]at h;exact absurd h f
  ·rfl
theorem UG {d:J.B} {a b c:Nat} {mode:Nat} {l:List Nat} (e:∀x,x∈l↔x=a\/x=b\/x=c) (h:X.bP d l mode≠X.good):LY d a b c mode=X.bP d l mode:=by
 unfold X.bP at h|-;unfold LY;split
 ·rfl
 ·rename_i h1;rw[if_neg h1]at h
  split
  ·rename_i h2;rw[if_neg (by rw[e];omega)]
  ·rename_i h2;rw[if_pos (by rw[e];omega)]at h;exact absurd rfl h
section
variable {w w' : World} {q g c : Nat} {M : Nat -> Prop} {m : X.M} {v : Value} {l : List HP}
theorem fH.below (h:fH w q g c M m v l) (a:Below w.heap.size w w'):fH w' q g c M m v l:=
 ⟨(a.block q (ai h.row).1).trans h.row,h.ks.below a,h.ng,h.rows.below a,h.nq,h.eq⟩
theorem fH.len (h:fH w q g c M m v l):l.length=m.rows.length:=by rw[<-h.eq,List.length_map]
theorem hpart_any (o:w.heap[q]? =some (gz m g c v)) (d:dJ w g m.ks) (i:Nat) (h:i<m.ks.length) (b:J.B) (D:(X.aH m.ks i).at_+(X.aH m.ks i).len<=b.length) (u:b.length<=1000000):
  Calls Tryz.prog 52 #[.pointer (some ⟨q,0,none⟩), .int .i64 (i:Nat), .string ⟨b.toArray⟩] w λe w'=>e= .returned (.string ⟨(X.val m.ks i b).toArray⟩)/\Below w.heap.size w w':=by
 have x:=aj w q o;have A:=d.at_ h;have B:=d.len h;have C:=d.dup h;have a:(⟨b.toArray⟩:ByteArray).extract (X.aH m.ks i).at_ ((X.aH m.ks i).at_+(X.aH m.ks i).len)=⟨(X.val m.ks i b).toArray⟩:=by
  rw[ByteArray.extract_mk,Nat.add_sub_cancel_left];rfl
 have y:(⟨b.toArray⟩:ByteArray).size=b.length:=bm b;have G:wrap64 (((X.aH m.ks i).at_:Int)+(X.aH m.ks i).len)=(((X.aH m.ks i).at_+(X.aH m.ks i).len:Nat):Int):=by rw[IntWalk.wrap64_in _ (by omega)];omega
 have H:IntKind.i64.wrap (((X.aH m.ks i).at_:Int)+(X.aH m.ks i).len)=(((X.aH m.ks i).at_+(X.aH m.ks i).len:Nat):Int):=by rw[IntKind.wrap_i64];omega
 have F:(i:Int)<(m.ks.length:Nat):=by omega
 have l:=ae (heap_alloc_new w dU);have f:=ae ((ak _ w).alloc (aq _) dU);generalize(⟨b.toArray⟩:ByteArray)=S at a y|-;generalize(⟨(X.val m.ks i b).toArray⟩:ByteArray)=R at a|-;have s:=ae a;clear o d u a;go_enter Tryz.func52,Tryz.ntmps52;go_wp2_with (refine wpList_store_row rfl _ _ 66 rfl w.heap.size rfl _ rfl _ _ l.o rfl (by kernel_rfl) rfl ?_);intro t p n z;have r:=ae (f.o.grown n f.o.size (λk e=>by injection e with e;omega));have E:=aj t w.heap.size p;clear p n z l f A B C x;go_wp2;go_ret;exact⟨by rw[<-s.o];rfl,r.o⟩
theorem xc (h:w.heap[q]? =some (gz m g c v)) (i:J.B) (a b d:Nat):
  Calls Tryz.prog 59 #[.pointer (some ⟨q,0,none⟩), .string ⟨i.toArray⟩, .int .u8 (a:Nat), .int .u8 (b:Nat), .int .u8 (d:Nat)] w λe w'=>e= .returned (.string ⟨(LY i a b d m.mode).toArray⟩)/\w=w':=by
 have k:=aj w q h;clear h;unfold LY;generalize m.mode=mode at k|-;by_cases h0:mode=0
 ·rw[if_pos h0];subst h0;go_enter Tryz.func59,Tryz.ntmps59;go_wp2;go_ret;exact⟨rfl,rfl⟩
 ·rw[if_neg h0];have k0:¬((mode:Int)=0):=(by omega);by_cases f:mode≠a/\mode≠b/\mode≠d
  ·rw[if_pos f];have l:((mode:Int) !=(a:Int))=true:=(by simp;omega);have n:((mode:Int) !=(b:Int))=true:=(by simp;omega);have o:((mode:Int) !=(d:Int))=true:=(by simp;omega);clear f h0;go_enter Tryz.func59,Tryz.ntmps59;go_wp2;go_ret;exact⟨rfl,rfl⟩
  ·rw[if_neg f];by_cases e1:mode=a
   ·subst e1;clear h0;go_enter Tryz.func59,Tryz.ntmps59;go_wp2;go_ret;exact⟨rfl,rfl⟩
   ·have l:((mode:Int) !=(a:Int))=true:=(by simp;omega);by_cases e2:mode=b
    ·subst e2;clear h0 e1 f;go_enter Tryz.func59,Tryz.ntmps59;go_wp2;go_ret;exact⟨rfl,rfl⟩
    ·have n:((mode:Int) !=(b:Int))=true:=(by simp;omega);obtain rfl:mode=d:=(by omega);clear h0 e1 e2 f;go_enter Tryz.func59,Tryz.ntmps59;go_wp2;go_ret;exact⟨rfl,rfl⟩
theorem iA (a:w.heap[q]? =some (gz m g c v)):
  Calls Tryz.prog 111 #[.pointer (some ⟨q,0,none⟩)] w λe w'=>(∃v,e= .returned v)/\w.grownBy w' (some q)/\w'.heap[q]? =some (gz m.dW g c v):=by
 have d:=aj w q a;have f:=aD a;have b:=ae (ay (ay (World.grownBy.refl w (some q)) 9 (.bool true)) 14 (.bool false));have HR:=ae (aB (aB a 9 (.bool true)) 14 (.bool false));clear a;go_enter Tryz.func111,Tryz.ntmps111;go_wp2;go_end0;exact⟨⟨_,rfl⟩,b.o,HR.o⟩
theorem fH.turn {m':X.M} (h:fH w q g c M m v l) (a:w.grownBy w' (some q)) (f:w'.heap[q]? =some (gz m' g c v)) (e1:m'.ks=m.ks) (e2:m'.rows=m.rows):fH w' q g c M m' v l:=by
 refine⟨f, ?_,h.ng,h.rows.keep a.size (λk b d=>a.block k b (λe=>d (by injection e with e;rw[e];exact h.nq))) (λ_ _ h=>h),h.nq,by rw[e2];exact h.eq⟩;rw[e1];exact⟨av h.ks.1 a.size,λj u i=>(World.cell?_of_block (a.block g h.ks.1 (λe=>h.ng (by injection e)))).trans (h.ks.2 j u i)⟩
theorem nW (h:fH w q g c M m v l) (D:X.eC m.ks m.size) (C:∀x∈l,X.bt m.ks m.size x.1.b=true) (hl:l.length<=1000000) (p:J.B):
  Calls Tryz.prog 61 #[.pointer (some ⟨q,0,none⟩), .string ⟨p.toArray⟩] w λe w'=>(∃z:Int,e= .returned (.int .i64 z)/\((∃(j:Nat) (hj:j<l.length),z=j/\X.val m.ks 0 l[j].1.b=p)\/(z= -1/\∀x∈l,X.val m.ks 0 x.1.b≠p)))/\Below w.heap.size w w':=by
 obtain⟨A,c',rfl,a1,K,_,_⟩:=h.rows.aU;have Q:=ae K;have U:=ae h;have F:=D.one;have a0:=D.size;have V:=ae (λW (f:Below w.heap.size w W) (x:HP) (O:x∈l)=>hpart_any (h.below f).row (h.below f).ks 0 F.1 x.1.b ((X.aS.1 (C x O)).2 _ (X.aY F.1)) (by have:=(X.aS.1 (C x O)).1;omega));have G:=ae (λx:HP=>dt (X.val m.ks 0 x.1.b) p);clear h K D C F a0;generalize(⟨p.toArray⟩:ByteArray)=P at G|-;go_enter Tryz.func61,Tryz.ntmps61;go_wp2;go_loopw [5] (fun i wr=>∃j:Nat,j<=l.length/\i= .int .i64 j/\Below w.heap.size w wr/\∀t (k:t<l.length),t<j->X.val m.ks 0 l[t].1.b≠p) (fun i _=>l.length - (intOf i).toNat)
 case atStart=>exact⟨0,Nat.zero_le _,rfl,ak _ _,λt _ h=>absurd h (Nat.not_lt_zero t)⟩
 case round=>
  obtain⟨j,hj,rfl,y,N⟩:=hrel;have H:=ae N;have b:=ae y;have Y:=aj wr q (U.o.below y).row;clear N y;by_cases E:j<l.length
  ·obtain⟨g1,rfl,Z,L⟩:=Q.o (by omega);obtain⟨I,c1⟩:=jF l j E;have B:wr.cell? ⟨g1,j*2,none⟩=some (encStr l[j].1.b):=(b.o.cell (p:=⟨g1,j*2,none⟩) Z).trans (L _ _ I);have o:=ae (V.o wr b.o l[j] (List.getElem_mem E));have d:=ae (G.o l[j]);have HE:=ae (show X.val m.ks 0 l[j].1.b=X.val m.ks 0 l[j].1.b from rfl);have u:=ae E;clear L I c1;unfold encStr at B;generalize(⟨(l[j].1.b).toArray⟩:ByteArray)=S at B o;generalize(⟨(X.val m.ks 0 l[j].1.b).toArray⟩:ByteArray)=T at o d;go_wp2_with fail;refine o.o.mono ?_;rintro e w1 ⟨rfl,f⟩;have n:=ae (b.o.trans (f.mono b.o.size));clear f o Y B;by_cases a:X.val m.ks 0 l[j].1.b=p
   ·have hq:(T.toList==P.toList)=true:=(by rw[d.o];exact decide_eq_true a);have s:=ae a;clear a d;go_wp2;go_ret;exact⟨⟨_,rfl, .inl ⟨j,u.o,rfl,s.o⟩⟩,n.o⟩
   ·have hq:(T.toList==P.toList)=false:=(by rw[d.o];exact decide_eq_false a);have s:=ae a;clear a d;go_wp2;go_roundw
    case rel=>
     refine⟨j+1,u.o,by go_num,n.o,λt k a2=> ?_⟩;by_cases e:t=j
     ·subst e;exact s.o
     ·exact H.o t k (by omega)
    case measure=>have:=u.o;simp[intOf];omega
  ·obtain rfl:j=l.length:=(by omega);have n:=b;go_wp2;go_ret;refine⟨⟨_,rfl, .inr ⟨rfl,λr hr=> ?_⟩⟩,n.o⟩;obtain⟨t,k,rfl⟩:=List.getElem_of_mem hr;exact H.o t k k
end
def jG (n:Nat):Code->Option Code
 | .region id l d=>if id=n then some (.region id l d)else none
 | .loop c=>jG n c
 | .seq a b=>match jG n a with
  |some c=>some c
  |none=>jG n b
 | .block _ c=>jG n c
 | .scope c=>jG n c
 | .cond _ a b=>match jG n a with
  |some c=>some c
  |none=>jG n b
 |_=>none
theorem dR {P:Program} {ops:Array Oper} {Q:Exit->Act->World->Prop} {S:World->Prop} {L:Act->World->Prop} {i:Nat} {o:Oper} {t:Pl} {a:Act} {w:World} (d:ops[i]? =some o) (c:Region.wanted o (yielded ops a.tmps)=false)
  (h:∀K:Act->World->Prop,Shut (∀(a:Act) (w:World) (T:World->Prop),(∀w,T w->S w)->T w->wpPm P ops Q L t T a w->K a w)->K (a.put o.dst undef) w):wpPm P ops Q L (.wr i t) S a w:=
 wpPm_write d (λK b=>by rw[c,if_neg (by decide)];exact h K b)
def Bc (ks:List X.Ky) (i:Nat) (x y:HP):Bool:=X.mD ks i x.1 y.1
def Hf (ks:List X.Ky) (i:Nat) (x:HP) (l:List HP):List HP:=l.takeWhile (Bc ks i · x)++x::l.dropWhile (Bc ks i · x)
def dm (ks:List X.Ky) (i:Nat) (l:List HP):List HP:=l.foldl (λa x=>Hf ks i x a) []
theorem aaj {c d:Type} (f:c->d) (p:d->Bool) (l:List c):(l.takeWhile λx=>p (f x)).map f=(l.map f).takeWhile p/\(l.dropWhile λx=>p (f x)).map f=(l.map f).dropWhile p:=by
 induction l with
 |nil=>exact⟨rfl,rfl⟩
 |cons a t b=>
  rw[List.map_cons,List.takeWhile_cons,List.takeWhile_cons,List.dropWhile_cons,List.dropWhile_cons];cases p (f a)with
  |true=>exact⟨by rw[if_pos rfl,if_pos rfl,List.map_cons,b.1],by rw[if_pos rfl,if_pos rfl,b.2]⟩
  |false=>exact⟨rfl,rfl⟩
theorem Qo (ks:List X.Ky) (i:Nat) (x:HP) (l:List HP):(Hf ks i x l).map (·.1)=X.sH ks i x.1 (l.map (·.1)):=by
 obtain⟨h1,a⟩:=aaj (λy:HP=>y.1) (λy=>X.mD ks i y x.1) l;rw[X.TV,<-h1,<-a,Hf,List.map_append,List.map_cons];rfl
theorem tq (ks:List X.Ky) (i:Nat) (l:List HP) (x:HP):dm ks i (l++[x])=Hf ks i x (dm ks i l):=by
 unfold dm;rw[List.foldl_append];rfl
theorem rG (ks:List X.Ky) (i:Nat) (l:List HP):(dm ks i l).map (·.1)=X.cn ks i (l.map (·.1)):=by
 refine X.qM (P:=λl=>(dm ks i l).map (·.1)=X.cn ks i (l.map (·.1))) rfl (λl x a=> ?_) l;rw[tq,List.map_append,List.map_cons,List.map_nil,X.qL,Qo,a]
theorem kP (ks:List X.Ky) (i:Nat) (l:List HP):(dm ks i l).length=l.length:=by
 have:=congrArg List.length (rG ks i l);rw[List.length_map,X.qN,List.length_map]at this;exact this
theorem Qp {ks:List X.Ky} {i:Nat} {x z:HP} {l:List HP} (h:z∈Hf ks i x l):z=x\/z∈l:=by
 unfold Hf at h;rcases List.mem_append.1 h with h|h
 ·exact .inr ((List.takeWhile_sublist _).subset h)
 ·rcases au h with h|h
  ·exact .inl h
  ·exact .inr ((List.dropWhile_sublist _).subset h)
theorem rH {ks:List X.Ky} {i:Nat} {z:HP} (l:List HP):z∈dm ks i l->z∈l:=by
 refine X.qM (P:=λl=>z∈dm ks i l->z∈l) (λh=>h) (λl x a h=> ?_) l;rw[tq]at h;rcases Qp h with h|h
 ·subst h;exact List.mem_append_right _ af
 ·exact List.mem_append_left _ (a h)
theorem UH {c:Type} (p:c->Bool) (l:List c):l.takeWhile p=l.take (l.takeWhile p).length/\l.dropWhile p=l.drop (l.takeWhile p).length/\(l.takeWhile p).length<=l.length/\(∀j (h:j<l.length),j<(l.takeWhile p).length->p l[j]=true)/\(∀h:(l.takeWhile p).length<l.length,p l[(l.takeWhile p).length]=false):=by
 induction l with
 |nil=>exact⟨rfl,rfl,aq _,λj h=>absurd h (by simp),λh=>absurd h (by simp)⟩
 |cons a t g=>
  obtain⟨h1,d,i,e,f⟩:=g;rw[List.takeWhile_cons,List.dropWhile_cons];cases hp:p a with
  |true=>
   rw[if_pos rfl,if_pos rfl];refine⟨by rw[List.length_cons,List.take_succ_cons,<-h1],by rw[List.length_cons,List.drop_succ_cons,<-d],by simp;omega,λj h b=> ?_,λh=> ?_⟩
   ·cases j with
    |zero=>exact hp
    |succ j=>exact e j (by simpa using h) (by simpa using b)
   ·simpa using f (by simpa using h)
  |false=>
   exact⟨rfl,rfl,Nat.zero_le _,λj h b=>absurd b (by simp),λh=>hp⟩
abbrev adN:Obj:= .cells #[.string ⟨#[]⟩, .slice none 0 0] 52 (0,0)
abbrev ah9 (p:HP):Obj:= .cells #[encStr p.1.b,p.2] 52 (0,0)
section
variable {w w' : World} {q g c : Nat} {M : Nat -> Prop} {m : X.M} {v : Value} {l : List HP}
theorem lU.cells (h:lU w M v l) {k:Nat} (f:k<l.length):∃c d,v= .slice (some ⟨c,0,none⟩) l.length d/\w.cell? ⟨c,k*2,none⟩=some (encStr l[k].1.b)/\w.cell? ⟨c,k*2+1,none⟩=some l[k].2:=by
 rcases h.row with⟨_,e⟩|⟨c,d,e,_,_,_,g⟩
 ·rw[e]at f;exact absurd f (by simp)
 ·obtain⟨a,b⟩:=jF l k f;exact⟨c,d,e,g _ _ a,g _ _ b⟩
theorem lT.cell {ts:List Nat} (h:lT w M v ts) {i:Nat} (d:i<ts.length):∃a b,v= .slice (some ⟨a,0,none⟩) ts.length b/\w.cell? ⟨a,i,none⟩=some (xM ts[i]):=by
 obtain⟨a,b,e,_,_,c⟩:=h;exact⟨a,b,e,c i d⟩
end
structure bY (m:X.M) (l:List HP):Prop where
 fit:∀x∈l,X.bt m.ks m.size x.1.b=true
 ts:∀x∈l,x.1.ts.length=m.ks.length
 ks:X.eC m.ks m.size
 len:l.length<=1000000
section
variable {w w' : World} {q g c : Nat} {M : Nat -> Prop} {m : X.M} {v : Value} {l : List HP}
theorem bY.part (a:bY m l) (h:fH w q g c M m v l) {i:Nat} (b:i<m.ks.length) (x:HP) (d:x∈l):
  Calls Tryz.prog 52 #[.pointer (some ⟨q,0,none⟩), .int .i64 (i:Nat), .string ⟨x.1.b.toArray⟩] w λe w'=>e= .returned (.string ⟨(X.val m.ks i x.1.b).toArray⟩)/\Below w.heap.size w w':=
 hpart_any h.row h.ks i b x.1.b ((X.aS.1 (a.fit x d)).2 _ (X.aY b)) (by have:=(X.aS.1 (a.fit x d)).1;have:=a.ks.size;omega)
theorem bY.sub (a:bY m l) {l':List HP} (c:∀x∈l',x∈l) (d:l'.length<=l.length):bY m l':=⟨λx b=>a.fit x (c x b),λx b=>a.ts x (c x b),a.ks,by have:=a.len;omega⟩
end
def Be (ks:List X.Ky) (size:Nat) (b:J.B) (k:Nat):Bool:=decide (b.length<=size)&&(ks.take k).all λx=>decide (x.at_+x.len<=b.length)
theorem Qq (ks:List X.Ky) (size:Nat) (b:J.B):Be ks size b ks.length=X.bt ks size b:=by unfold Be X.bt;rw[List.take_length]
theorem LZ {ks:List X.Ky} {size:Nat} {b:J.B} {k:Nat} (h:k<ks.length):Be ks size b (k+1)=(Be ks size b k&&decide ((X.aH ks k).at_+(X.aH ks k).len<=b.length)):=by
 have e:ks[k]=X.aH ks k:=by unfold X.aH;simp[h]
 unfold Be;rw[List.take_succ_eq_append_getElem h,List.all_append,e,<-Bool.and_assoc];simp
theorem aak (a l:Nat) (h:a+l<=10000):wrap64 ((a:Int)+(l:Nat))=((a+l:Nat):Int):=by rw[IntWalk.wrap64_in _ (by omega)];omega
theorem Qr (a l:Nat) (h:a+l<=10000):IntKind.i64.wrap ((a:Int)+(l:Nat))=((a+l:Nat):Int):=by rw[IntKind.wrap_i64];omega
theorem aal (j:Nat) (h:j<=100000):Value.int .i64 (wrap64 ((j:Int)+1))= .int .i64 ((j+1:Nat):Int):=by rw[IntWalk.wrap64_in _ (by omega)];rfl
theorem UI {j n:Nat} (h:j<n) (a:j<=100000):n - (intOf (Value.int .i64 (wrap64 ((j:Int)+1)))).toNat<n - (intOf (Value.int .i64 (j:Int))).toNat:=by
 rw[IntWalk.wrap64_in _ (by omega)];simp only[intOf];omega
theorem Qs {j n:Nat} (h:j<n):n - (intOf (Value.int .i64 ((j:Int)+1))).toNat<n - (intOf (Value.int .i64 (j:Int))).toNat:=by
 simp only[intOf];omega
section
variable {w w' : World} {q g c : Nat} {M : Nat -> Prop} {m : X.M} {v : Value} {l : List HP}
theorem zv (h:fH w q g c M m v l) (x:X.eC m.ks m.size) (b:J.B) (I:b.length<=1000000):
  Calls Tryz.prog 60 #[.pointer (some ⟨q,0,none⟩), .string ⟨b.toArray⟩] w λe w'=>e= .returned (.bool (X.bt m.ks m.size b))/\Below w.heap.size w w':=by
 have A:=ae h;have s:=aj w q h.row;have C:=ae x;have H:=x.one;have O:(⟨b.toArray⟩:ByteArray).size=b.length:=bm b;have F:Be m.ks m.size b 0=decide (b.length<=m.size):=by unfold Be;simp
 have P:decide ((b.length:Int)<=(m.size:Nat))=decide (b.length<=m.size):=by
  by_cases hh:b.length<=m.size
  ·rw[decide_eq_true hh,decide_eq_true (by omega)]
  ·rw[decide_eq_false hh,decide_eq_false (by omega)]
 have z:=ae F;generalize(⟨b.toArray⟩:ByteArray)=S at O|-;clear h x F P;go_enter Tryz.func60,Tryz.ntmps60;go_wp2;clear s;go_loopw [5,6] (fun t u W=>∃k:Nat,k<=m.ks.length/\t= .bool (Be m.ks m.size b k)/\u= .int .i64 k/\Below w.heap.size w W) (fun _ u _=>m.ks.length - (intOf u).toNat)
 case atStart=>exact⟨0,Nat.zero_le _,by rw[z.o],rfl,ak _ _⟩
 case round=>
  obtain⟨k,Q,rfl,rfl,r⟩:=hrel;have i:=ae r;have s:=aj wr q (A.o.below r).row;clear r;by_cases f:k<m.ks.length
  ·have T:(k:Int)<(m.ks.length:Nat):=(by omega);have p:=ae f;have B:=ae (show k<=100000 by omega);have o:=ae (LZ (size:=m.size) (b:=b) f);have n:=ae (λw' (d:Below wr.heap.size wr w')=>A.o.below (i.o.trans (d.mono i.o.size)));have L:=C.o.key _ (X.aY f);have N:=C.o.size;have y:(X.aH m.ks k).at_+(X.aH m.ks k).len<=10000:=(by omega);have U:=aak _ _ y;have V:=Qr _ _ y;have E:decide ((((X.aH m.ks k).at_+(X.aH m.ks k).len:Nat):Int)<=(b.length:Nat))=decide ((X.aH m.ks k).at_+(X.aH m.ks k).len<=b.length):=by
    by_cases hh:(X.aH m.ks k).at_+(X.aH m.ks k).len<=b.length
    ·rw[decide_eq_true hh,decide_eq_true (by omega)]
    ·rw[decide_eq_false hh,decide_eq_false (by omega)]
   rw[<-E]at o;clear L N y E H I z;cases eN:Be m.ks m.size b k
   have D:=trivial
   all_goals
    rw[eN]at o;go_upto_region 5 with fail;refine aJ 23 (.rd 0 (.rd 1 (.rd 2 (.rd 3 (.rd 4 (.rd 5 (.rd 6 (.rd 7 (.rd 8 (.rd 9 (.rd 10 (.rd 11 (.rd 12 (.rd 13 (.rd 14 (.rd 15 (.rd 16 (.rd 17 (.rd 18 (.rd 19 (.rd 20 (.rd 21 (.rd 22 .fin))))))))))))))))))))))) (λw'=>Below wr.heap.size wr w') ((ak wr.heap.size wr).drew) ?_;first
     |have D:=D
      iterate 2
       refine aA (v:= ?_) (λw' d=> ?_) (λK a=> ?_);rotate_left
       ·clear d;go_simp;try with_reducible rfl
       go_simp;refine a _ ?_;clear a K
      iterate 21
       refine aF (λK a=> ?_);go_simp;refine a _ ?_;clear a K
     |skip
      iterate 23
       refine aA (v:= ?_) (λw' d=> ?_) (λK a=> ?_);rotate_left
       ·have s:=aj w' q (n.o w' d).row;have Y:=(n.o w' d).ks.at_ f;have Z:=(n.o w' d).ks.len f;clear d;go_simp;try with_reducible rfl
       go_simp;refine a _ ?_;clear a K
    show wpList _ _ _ _ _ _;have G:=ae i.o.drew;go_wp2;go_roundw
    case rel=>exact⟨k+1,p.o,by rw[o.o];rfl,by first|exact aal k B.o|rfl,G.o⟩
    case measure=>first|exact UI p.o B.o|exact Qs p.o
  ·obtain rfl:k=m.ks.length:=(by omega);go_wp2;go_ret;exact⟨by rw[<-Qq];rfl,i.o⟩
end
end Go.Proofs.YtipljcmmokaokaaGreat
namespace Go.Proofs.YtipljcmmokaokaaGreat
open Go.RowKit Go.Lib Go.Maps Go.WideMaps Go.Sort
namespace X
theorem xd (ks:List Ky) (k:Nat) (x:Row):¬mD ks k x x=true:=λh=>by
 rcases qK.1 h with h|⟨_,h⟩
 ·exact List.lt_irrefl _ h
 ·exact Nat.lt_irrefl _ h
theorem Ma {ks:List Ky} {k:Nat} {l:List Row} (h:l.Pairwise (mD ks k · ·)) {i:Nat} (c:i<l.length):l.find? (mD ks k l[i] ·)=l[i+1]? :=by
 have d:=List.pairwise_iff_getElem.1 h;have e:l.find? (mD ks k l[i] ·)=(l.take (i+1)++l.drop (i+1)).find? (mD ks k l[i] ·):=by rw[List.take_append_drop]
 have m:(l.take (i+1)).find? (mD ks k l[i] ·)=none:=List.find?_eq_none.2 (λx n b=>by
  obtain⟨j,f,rfl⟩:=List.getElem_of_mem n;rw[List.length_take]at f;rw[List.getElem_take]at b;by_cases g:j=i
  ·subst g;exact xd ks k _ b
  ·exact xd ks k _ (yL b (d j i (by omega) c (by omega))))
 rw[e,List.find?_append,m,Option.none_or];by_cases a:i+1<l.length
 ·rw[List.drop_eq_getElem_cons a,List.find?_cons_of_pos (d i (i+1) c a (by omega)),List.getElem?_eq_getElem a]
 ·rw[List.drop_eq_nil_of_le (by omega),List.find?_nil,List.getElem?_eq_none (by omega)]
theorem Mb {ks:List Ky} {size ct:Nat} {rows:List Row} (c:aQ ks size ct rows) {k:Nat} (b:k<ks.length) {i:Nat} (a:i<(cn ks k rows).length):
  moreB ks rows k (cn ks k rows)[i]=match(cn ks k rows)[i+1]? with
   |some x=>decide (val ks k x.b=val ks k (cn ks k rows)[i].b)
   |none=>false:=by
 unfold moreB;rw[Ma (lD ks k rows (c.CH b)) a];cases(cn ks k rows)[i+1]? <;>rfl
end X
end Go.Proofs.YtipljcmmokaokaaGreat
