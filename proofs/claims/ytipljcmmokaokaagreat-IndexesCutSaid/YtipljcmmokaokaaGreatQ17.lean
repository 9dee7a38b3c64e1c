import Derived.Test.YtipljcmmokaokaaGreatQ15
import Derived.Test.YtipljcmmokaokaaGreatQ14
set_option linter.unusedVariables false
set_option linter.unusedSimpArgs false
set_option maxHeartbeats 40000000
namespace Go.Proofs.YtipljcmmokaokaaGreat
open Go.RowKit Go.Lib Go.Maps Go.WideMaps Go.Sort
set_option maxRecDepth 100000
section
variable {w0 : World} {p pf g c size ct u : Nat} {nm : J.B} {ks : List X.Ky} {rows : List X.Row} {f : Fv} {w w' : World} {s s1 s2 : J.St} {fs : List (Nat × Obj)} {ok : Obj}
theorem Ew (h0:w.heap[pf]? =some (ax p nm size g ks.length c f)) (b:X.bP [52,56] [2,4,3] f.mode≠[48,48]) (A:Option Addr) (m cb:Nat):
  Calls Tryz.prog 15 #[.pointer (some ⟨pf,0,none⟩), .slice A m cb] w λe w'=>e= .returned (.string ⟨(X.bP [52,56] [2,4,3] f.mode).toArray⟩)/\Below w.heap.size w w':=by
 have a:=ae (bQ h0 [52,56] [2,4,3] 3 #[.int .u8 2, .int .u8 4, .int .u8 3] rfl rfl (by decide) w.heap.size rfl);have i:=uh b;have d:=ae ((ak _ w).alloc (aq _) (.cells #[.int .u8 2, .int .u8 4, .int .u8 3] 32));generalize(⟨(X.bP [52,56] [2,4,3] f.mode).toArray⟩:ByteArray)=j at a i|-;clear h0 b;go_enter Tryz.func15,Tryz.ntmps15;go_wp2_with fail;refine a.o.mono ?_;rintro e W1 ⟨rfl,h⟩;subst h;clear a;go_wp2;go_ret;exact⟨rfl,d.o⟩
theorem Rg:(∀{w0:World} {p pf g c size ct:Nat} {nm:J.B} {ks:List X.Ky} {rows:List X.Row} {f:Fv} {w:World} {s:J.St} {fs:List (Nat×Obj)} {ok:Obj} (h:At w0 p ((pf,ax p nm size g ks.length c f)::fs) s w) (r:∀x∈fs,x.1≠pf) (o:(g,ok)∈fs) (i:bR ok ks) (u:J.Two s) (a:XF nm size ks rows ct s.now) (b:J.B) (A:Option Addr) (cb:Nat) (P:Src w0 p fs (.slice A b.length cb) b) (m:X.bt ks size b=true) (t:X.bP [52,56] [2,4,3] f.mode=[48,48]) (T:f.ord=true) (Q:f.mode≠3) (H:¬f.written<X.val ks 0 b),Calls Tryz.prog 15 #[.pointer (some ⟨pf,0,none⟩), .slice A b.length cb] w λe w'=>e= .returned (.string ⟨#[50,49]⟩)/\At w0 p ((pf,ax p nm size g ks.length c {f with read:=false})::fs) s w')/\(∀{w0:World} {p pf g c size ct:Nat} {nm:J.B} {ks:List X.Ky} {rows:List X.Row} {f:Fv} {w:World} {s:J.St} {fs:List (Nat×Obj)} {ok:Obj} (h:At w0 p ((pf,ax p nm size g ks.length c f)::fs) s w) (r:∀x∈fs,x.1≠pf) (o:(g,ok)∈fs) (i:bR ok ks) (u:J.Two s) (a:XF nm size ks rows ct s.now) (b:J.B) (A:Option Addr) (cb:Nat) (t:X.bP [52,56] [2,4,3] f.mode=[48,48]) (m:X.bt ks size b=false),Calls Tryz.prog 15 #[.pointer (some ⟨pf,0,none⟩), .slice A b.length cb] w λe w'=>e= .returned (.string ⟨#[52,52]⟩)/\At w0 p ((pf,ax p nm size g ks.length c {f with read:=false})::fs) s w'):=by
 refine⟨?z0, ?z1⟩
 case' z0=>intro w0 p pf g c size ct nm ks rows f w s fs ok h r o i u a b A cb P m t T Q H
 case' z1=>(intro w0 p pf g c size ct nm ks rows f w s fs ok h r o i u a b A cb t m;have y:=trivial)
 all_goals
  have S:=a.ks.one;have E:=ae (λW (hh:At w0 p ((pf,ax p nm size g ks.length c {f with read:=false})::fs) s W)=>nA nm size g c ks A b.length cb W (i.2 W g (hh.get (ag _ o))) (by omega) (λk hk=>by have h1:=a.ks.key k hk;have O:=a.ks.size;omega) b rfl);rw[m]at E;have I:=(ai (h.get af)).1;have I:pf<w.heap.size:=I;have D:=ae (bQ (h.get af) [52,56] [2,4,3] 3 #[.int .u8 2, .int .u8 4, .int .u8 3] rfl rfl (by decide) w.heap.size rfl);rw[t]at D;have M:=ae (h.below ((ak _ w).alloc (aq _) (.cells #[.int .u8 2, .int .u8 4, .int .u8 3] 32)));first
   |have y:=y
    skip
   |have v:=ae (λW (hh:At w0 p ((pf,ax p nm size g ks.length c {f with read:=false})::fs) s W)=>cG (X.aH ks 0) (.slice A b.length cb) b bE W (P _ _ _ fT hh) ((X.aS.1 m).2 _ (X.aY S.1)) (by have h1:=(X.aS.1 m).1;have O:=a.ks.size;omega))
    have U:(X.aH ks 0).val b=X.val ks 0 b:=rfl;rw[U]at v;clear U;have N:=ae (λW (hh:At w0 p ((pf,ax p nm size g ks.length c {f with read:=false})::fs) s W)=>i.2 W g (hh.get (ag _ o)));have n:0<ks.length:=(by omega);have a0:=ae n;clear n;have m3:((f.mode:Int) !=3)=true:=(by simp;omega);have z:(Op.bytesLess (⟨(X.val ks 0 b).toArray⟩:ByteArray).toList (⟨f.written.toArray⟩:ByteArray).toList=true)\/(Op.bytesLess (⟨(X.val ks 0 b).toArray⟩:ByteArray).toList (⟨f.written.toArray⟩:ByteArray).toList=false/\((⟨(X.val ks 0 b).toArray⟩:ByteArray).toList==(⟨f.written.toArray⟩:ByteArray).toList)=true):=by
     rw[dt,ByteArray.toList_eq,ByteArray.toList_eq,bytesLess_eq];by_cases G:X.val ks 0 b<f.written
     ·exact .inl (by simpa using G)
     ·exact .inr ⟨by simpa using G,by simpa using List.le_antisymm (List.not_lt.1 H) (List.not_lt.1 G)⟩
    generalize a4:(⟨(X.val ks 0 b).toArray⟩:ByteArray)=vb at v z;generalize V:(⟨f.written.toArray⟩:ByteArray)=wb at z;have a1:=ae V;have Z:=ae z;clear a4 V z H Q
  clear h t;go_enter Tryz.func15,Tryz.ntmps15;go_wp2_with fail;refine D.o.mono ?_;rintro e W1 ⟨rfl,a2⟩;subst a2;clear D;refine aL (λX=>At w0 p ((pf,ax p nm size g ks.length c f)::fs) s X/\Below w.heap.size w X) ⟨M.o,(ak _ w).alloc (aq _) _⟩ ?_;rintro W ⟨ha,a3⟩;clear M;have h1:W.heap[pf]? =some (ax p nm size g ks.length c f):=ha.get af;have hz:=aD h1;have l:=aj W pf h1;have F:=ae (cR (f':={f with read:=false}) ha r u (ay (World.grownBy.refl W (some pf)) 11 (.bool false)) (aB h1 11 (.bool false)));clear ha a3 r o i u a h1 S I;go_wp2_with fail;refine(E.o _ F.o).mono ?_;rintro e W3 ⟨rfl,q⟩;have d:=ae (F.o.below q);clear q F E l hz;first
   |have y:=y
    go_wp2;go_ret;exact⟨rfl,d.o⟩
    skip
   |have l:=aj W3 pf (d.o.get af)
    have n:=a0.o;have B:=N.o _ d.o;have Y:=B.at_ n;have K:=B.len n;have L:=B.dup n;rw[Nat.zero_mul]at Y K L;rw[Nat.zero_add]at K L;have a5:(0:Int)<(ks.length:Nat):=(by omega);clear B N;go_wp2_with fail;refine(v.o _ d.o).mono ?_;rintro e W4 ⟨rfl,q⟩;have C:=ae (d.o.below q);clear q v d l Y K L;have l:=aj W4 pf (C.o.get af);rw[T]at l;rw[a1.o]at l;rcases Z.o with h1|⟨h1,O⟩
    ·go_wp2;go_ret;exact⟨rfl,C.o⟩
    ·go_wp2;go_ret;exact⟨rfl,C.o⟩
abbrev BU:= @Rg.1
abbrev Ex:= @Rg.2
theorem Rh:(∀{w0:World} {p pf g c size ct u:Nat} {nm:J.B} {ks:List X.Ky} {rows:List X.Row} {f:Fv} {w:World} {s:J.St} {fs:List (Nat×Obj)} {ok:Obj} (h:At w0 p ((pf,ax p nm size g ks.length c f)::fs) s w) (y:∀x∈fs,x.1≠pf) (t:(g,ok)∈fs) (q:bR ok ks) (D:ks.length<=c) (H:J.Two s) (a:XF nm size ks rows ct s.now) (b:J.B) (A:Option Addr) (cb:Nat) (z:Src w0 p fs (.slice A b.length cb) b) (m:X.bt ks size b=true) (G:X.bP [52,56] [2,4,3] f.mode=[48,48]) (B:f.ord=true->f.mode≠3->f.written<X.val ks 0 b) (F:rows.find? (λr=>decide (X.val ks 0 r.b=X.val ks 0 b))=none) (E:X.eu (X.bH ks rows b none (ks.length - 1))≠[50,50]) (c0:X.mL u s.now s) (hu:u<=340) (b8:X.aQ ks size (ct+1) (X.gw ks ct rows b none)) (b9:rows.length<=u),Calls Tryz.prog 15 #[.pointer (some ⟨pf,0,none⟩), .slice A b.length cb] w λe w'=>e= .returned (.string ⟨(X.eu (X.bH ks rows b none (ks.length - 1))).toArray⟩)/\∃s1 now,At w0 p ((pf,ax p nm size g ks.length c {f with read:=false,written:=X.val ks 0 b})::fs) (J.aK s1) w'/\X.Tx u s s1 now/\X.iF nm (X.attr size ks) ks (X.gw ks ct rows b none) (ct+1) now)/\(∀{w0:World} {p pf g c size ct:Nat} {nm:J.B} {ks:List X.Ky} {rows:List X.Row} {f:Fv} {w:World} {s:J.St} {fs:List (Nat×Obj)} {ok:Obj} (h:At w0 p ((pf,ax p nm size g ks.length c f)::fs) s w) (y:∀x∈fs,x.1≠pf) (t:(g,ok)∈fs) (q:bR ok ks) (D:ks.length<=c) (H:J.Two s) (a:XF nm size ks rows ct s.now) (b:J.B) (A:Option Addr) (cb:Nat) (z:Src w0 p fs (.slice A b.length cb) b) (m:X.bt ks size b=true) (G:X.bP [52,56] [2,4,3] f.mode=[48,48]) (B:f.ord=true->f.mode≠3->f.written<X.val ks 0 b) (F:rows.find? (λr=>decide (X.val ks 0 r.b=X.val ks 0 b))=none) (E:X.eu (X.bH ks rows b none (ks.length - 1))=[50,50]),Calls Tryz.prog 15 #[.pointer (some ⟨pf,0,none⟩), .slice A b.length cb] w λe w'=>e= .returned (.string ⟨#[50,50]⟩)/\At w0 p ((pf,ax p nm size g ks.length c {f with read:=false})::fs) s w')/\(∀{w0:World} {p pf g c size ct:Nat} {nm:J.B} {ks:List X.Ky} {rows:List X.Row} {f:Fv} {w:World} {s:J.St} {fs:List (Nat×Obj)} {ok:Obj} (h:At w0 p ((pf,ax p nm size g ks.length c f)::fs) s w) (y:∀x∈fs,x.1≠pf) (t:(g,ok)∈fs) (q:bR ok ks) (D:ks.length<=c) (H:J.Two s) (a:XF nm size ks rows ct s.now) (b:J.B) (A:Option Addr) (cb:Nat) (z:Src w0 p fs (.slice A b.length cb) b) (m:X.bt ks size b=true) (G:X.bP [52,56] [2,4,3] f.mode=[48,48]) (B:f.ord=true->f.mode≠3->f.written<X.val ks 0 b) {o:X.Row} (F:rows.find? (λr=>decide (X.val ks 0 r.b=X.val ks 0 b))=some o),Calls Tryz.prog 15 #[.pointer (some ⟨pf,0,none⟩), .slice A b.length cb] w λe w'=>e= .returned (.string ⟨#[50,50]⟩)/\At w0 p ((pf,ax p nm size g ks.length c {f with read:=false})::fs) s w'):=by
 refine⟨?z0, ?z1, ?z2⟩
 case' z0=>intro w0 p pf g c size ct u nm ks rows f w s fs ok h y t q D H a b A cb z m G B F E c0 hu b8 b9
 case' z1=>(intro w0 p pf g c size ct nm ks rows f w s fs ok h y t q D H a b A cb z m G B F E;have M:=trivial)
 case' z2=>(intro w0 p pf g c size ct nm ks rows f w s fs ok h y t q D H a b A cb z m G B o F;have N:=trivial)
 all_goals
  have P:=a.ks.one;have a7:=ae (λW (hh:At w0 p ((pf,ax p nm size g ks.length c {f with read:=false})::fs) s W)=>nA nm size g c ks A b.length cb W (q.2 W g (hh.get (ag _ t))) (by omega) (λk hk=>by have h1:=a.ks.key k hk;have C:=a.ks.size;omega) b rfl);rw[m]at a7;have a9:=(ai (h.get af)).1;have a9:pf<w.heap.size:=a9;have a6:=ae (bQ (h.get af) [52,56] [2,4,3] 3 #[.int .u8 2, .int .u8 4, .int .u8 3] rfl rfl (by decide) w.heap.size rfl);rw[G]at a6;have HA:=ae (h.below ((ak _ w).alloc (aq _) (.cells #[.int .u8 2, .int .u8 4, .int .u8 3] 32)));have Z:=ae (λW (hh:At w0 p ((pf,ax p nm size g ks.length c {f with read:=false})::fs) s W)=>cG (X.aH ks 0) (.slice A b.length cb) b bE W (z _ _ _ fT hh) ((X.aS.1 m).2 _ (X.aY P.1)) (by have h1:=(X.aS.1 m).1;have C:=a.ks.size;omega));have c2:(X.aH ks 0).val b=X.val ks 0 b:=rfl;rw[c2]at Z;clear c2;have b1:=ae (λW (hh:At w0 p ((pf,ax p nm size g ks.length c {f with read:=false})::fs) s W)=>q.2 W g (hh.get (ag _ t)));have O:0<ks.length:=(by omega);have c7:=ae O;clear O;have U:=ae (λW (hh:At w0 p ((pf,ax p nm size g ks.length c {f with read:=false})::fs) s W)=>zH (old:=none) (Ao:=none) (no:=0) (co:=0) hh af (ag _ t) q D a (z.more fT) m (λ_ e=>nomatch e) rfl);have V:=ae (λW=>dM nm size (some ⟨g,0,none⟩) ks.length c 0 0 (X.val ks 0 b) (by decide) (by decide) (by have:=a.nm;omega) (by have h1:=X.bc m P.1;have C:=a.lens P.1;omega) W);have a8:=a.con.kJ a.rows (X.val ks 0 b);rw[F]at a8;have Y:=ae (λW (hh:At w0 p ((pf,ax p nm size g ks.length c {f with read:=false})::fs) s W)=>fF hh (X.cy nm 0 (X.val ks 0 b) 0) (by have h1:=X.bc m P.1;have C:=a.lens P.1;have h3:=X.cZ nm 0 (X.val ks 0 b) 0;have h4:=a.nm;omega) (λl hl=>by have:=a.len _ _ hl;omega));rw[a8]at Y;have d3:(Op.bytesLess (⟨(X.val ks 0 b).toArray⟩:ByteArray).toList (⟨f.written.toArray⟩:ByteArray).toList=decide (X.val ks 0 b<f.written))/\((⟨(X.val ks 0 b).toArray⟩:ByteArray).toList==(⟨f.written.toArray⟩:ByteArray).toList)=decide (X.val ks 0 b=f.written):=by
   refine⟨?_,dt _ _⟩;rw[ByteArray.toList_eq,ByteArray.toList_eq,bytesLess_eq]
  obtain⟨a0,a1⟩:=d3;generalize c3:(⟨f.written.toArray⟩:ByteArray)=wb at a0 a1;have d0:=ae c3;generalize c1:(⟨(X.val ks 0 b).toArray⟩:ByteArray)=vb at Z V a0 a1;have c9:=ae c1;generalize(⟨(X.cy nm 0 (X.val ks 0 b) 0).toArray⟩:ByteArray)=ee at V Y;have c4:aa (f.ord=false\/f.ord=true/\f.mode=3\/f.ord=true/\f.mode≠3/\Op.bytesLess vb.toList wb.toList=false/\(vb.toList==wb.toList)=false):=ae (by
   cases dZ:f.ord with
    |false=>exact .inl rfl
    |true=>
     refine .inr ?_;by_cases a3:f.mode=3
     ·exact .inl ⟨rfl,a3⟩
     ·refine .inr ⟨rfl,a3, ?_, ?_⟩
      ·rw[a0];have:=B dZ a3
       simpa using List.le_of_lt this
      ·rw[a1];have:=B dZ a3;simp only[decide_eq_false_iff_not];intro e;rw[e]at this;exact absurd this (List.lt_irrefl _))
  clear c3 c1 a0 a1 B a8;first
   |have N:=N
    skip
   |have M:=M
    have b6:(⟨(X.eu (X.bH ks rows b none (ks.length - 1))).toArray⟩:ByteArray)=⟨#[50,50]⟩:=(by rw[E]);rw[b6]at U;clear E b6
   |have d4:=uh E
    have b2:=ae (λW (hh:At w0 p ((pf,ax p nm size g ks.length c {f with read:=false})::fs) s W)=>Et hh y t q D A cb none 0 0 c0 hu a z m F rfl b8 b9);have c6:=ae y;generalize(⟨(X.eu (X.bH ks rows b none (ks.length - 1))).toArray⟩:ByteArray)=cs at U d4|-;clear E
  clear h G;go_enter Tryz.func15,Tryz.ntmps15;go_wp2_with fail;refine a6.o.mono ?_;rintro e W1 ⟨rfl,d1⟩;subst d1;clear a6;refine aL (λX=>At w0 p ((pf,ax p nm size g ks.length c f)::fs) s X/\Below w.heap.size w X) ⟨HA.o,(ak _ w).alloc (aq _) _⟩ ?_;rintro W ⟨ha,d2⟩;clear HA;have h1:W.heap[pf]? =some (ax p nm size g ks.length c f):=ha.get af;have hz:=aD h1;have i:=aj W pf h1;have L:=ae (cR (f':={f with read:=false}) ha y H (ay (World.grownBy.refl W (some pf)) 11 (.bool false)) (aB h1 11 (.bool false)));clear ha d2 y t q H a h1 P a9;go_wp2_with fail;refine(a7.o _ L.o).mono ?_;rintro e W3 ⟨rfl,n⟩;have Q:=ae (L.o.below n);clear n L a7 i hz;have i:=aj W3 pf (Q.o.get af);have O:=c7.o;have a2:=b1.o _ Q.o;have k1:=a2.at_ O;have k2:=a2.len O;have k3:=a2.dup O;rw[Nat.zero_mul]at k1 k2 k3;rw[Nat.zero_add]at k2 k3;have d6:(0:Int)<(ks.length:Nat):=(by omega);clear a2 b1;go_wp2_with fail;refine(Z.o _ Q.o).mono ?_;rintro e W4 ⟨rfl,n⟩;have T:=ae (Q.o.below n);clear n Z Q i k1 k2 k3;have i:=aj W4 pf (T.o.get af);rw[d0.o]at i;rcases c4.o with h1|⟨h1,C⟩|⟨h1,C,h3,h4⟩
  have b3:=trivial;rotate_left;have b4:=trivial;rotate_left;rotate_left
  all_goals
   first
    |have b3:=b3
     rw[h1]at i
    |have b4:=b4
     rw[h1,C]at i
    |rw[h1]at i
     have m3:((f.mode:Int) !=3)=true:=(by simp;omega);clear C
   go_wp2_with fail;refine(U.o _ T.o).mono ?_;rintro e W5 ⟨rfl,n⟩;have a4:=ae (T.o.below n);clear n U T i;go_wp2_with fail;refine aJ 15 (.rd 0 (.rd 1 (.rd 2 (.rd 3 (.rd 4 (.rd 5 (.rd 6 (.rd 7 (.rd 8 (.wr 9 (.wr 10 (.rd 11 (.rd 12 (.rd 13 (.wr 14 .fin))))))))))))))) (λw'=>At w0 p ((pf,ax p nm size g ks.length c {f with read:=false})::fs) s w') (a4.o.below ((ak _ _).drew)) ?_;repeat
    refine aA (v:= ?_) (λw' S=> ?_) (λK d=> ?_);rotate_left
    ·have i:=aj w' pf (S.get (af:(pf,ax p nm size g ks.length c {f with read:=false})∈(pf,ax p nm size g ks.length c {f with read:=false})::fs));clear S;go_simp;try with_reducible rfl
    go_simp;refine d _ ?_;clear d K
   refine az (λK d=> ?_);go_simp;refine(V.o _).mono ?_;rintro e W6 ⟨rfl,n⟩;have a5:=ae (a4.o.below (((ak _ _).drew).trans n));clear n V a4;refine d.out _ _ (λw'=>At w0 p ((pf,ax p nm size g ks.length c {f with read:=false})::fs) s w') (λ_ h=>h) a5.o ?_;clear d K;refine az (λK d=> ?_);go_simp;refine(Y.o _ a5.o).mono ?_;rintro e W7 ⟨v,rfl,d5,b5,_⟩;have I:=ae b5;clear b5 d5 Y a5;refine d.out _ _ (λw'=>At w0 p ((pf,ax p nm size g ks.length c {f with read:=false})::fs) s w') (λ_ h=>h) I.o ?_;clear d K;repeat
    refine aA (v:= ?_) (λw' S=> ?_) (λK d=> ?_);rotate_left
    ·have i:=aj w' pf (S.get (af:(pf,ax p nm size g ks.length c {f with read:=false})∈(pf,ax p nm size g ks.length c {f with read:=false})::fs));clear S;go_simp;try with_reducible rfl
    go_simp;refine d _ ?_;clear d K
   refine az (λK d=> ?_);go_simp;refine d.out _ _ (λw'=>At w0 p ((pf,ax p nm size g ks.length c {f with read:=false})::fs) s w') (λ_ h=>h) I.o ?_;clear d K;show wpList _ _ _ _ _ _;first
    |have N:=N
     skip
    |have M:=M
     skip
    |go_wp2_with fail
     refine(b2.o _ I.o).mono ?_;rintro e W8 ⟨rfl,s1,now,h8,b0,b7⟩;have h1:W8.heap[pf]? =some (ax p nm size g ks.length c {f with read:=false}):=h8.get af;have hz:=aD h1;have i:=aj W8 pf h1;have L:=ae (cR (f':={f with read:=false,written:=X.val ks 0 b}) h8 c6.o b0.sto.two (ay (World.grownBy.refl W8 (some pf)) 12 (.string ⟨(X.val ks 0 b).toArray⟩)) (aB h1 12 (.string ⟨(X.val ks 0 b).toArray⟩)));rw[c9.o]at L;have c8:=ae b0;have c5:=ae b7;clear h8 b0 b7 h1 b2 I
   go_wp2;go_ret;first
    |have N:=N
     exact⟨rfl,I.o⟩
     skip
    |have M:=M
     exact⟨rfl,I.o⟩
     skip
    |exact⟨rfl,_,_,L.o,c8.o,c5.o⟩
abbrev MA:= @Rh.1
abbrev BV:= @Rh.2.1
abbrev BW:= @Rh.2.2
end
section
variable {w0 : World} {p pf g c size ct u : Nat} {nm : J.B} {ks : List X.Ky} {rows : List X.Row} {f : Fv} {w w' : World} {s s1 s2 : J.St} {fs : List (Nat × Obj)} {ok : Obj}
variable {s' : J.St}
theorem kS {A B C:World} {r:Option Nat} (h1:A.grownBy B r) (a:B.grownBy C r):A.grownBy C r:=
 ⟨a.os.trans h1.os,a.tape.trans h1.tape,a.output.trans h1.output,aw h1.size a.size,λk b c=>(a.block k (av b h1.size) c).trans (h1.block k b c)⟩
theorem JZ (a:X.eC ks size) (nm:J.B):X.iF nm (X.attr size ks) ks [] 0 [(X.own nm,X.attr size ks)]:=by
 refine X.fo.same (X.Ol nm (X.attr size ks) ks.length (X.lens ks)) (λp v=> ?_) (λi p t q _ _=> ?_) (λi p t q h=> ?_)
 ·exact⟨λ⟨_,h,_⟩=>(by cases h),λh=>h.elim⟩
 ·exact⟨λ⟨_,h,_⟩=>(by cases h),λh=>h.elim⟩
 ·obtain⟨_,h,_⟩:=h;cases h
theorem Ka:(∀{w0:World} {p pf g c size u:Nat} {nm:J.B} {ks:List X.Ky} {f:Fv} {w:World} {s:J.St} {fs:List (Nat×Obj)} {ok:Obj} {s':J.St} (h:At w0 p ((pf,ax p nm size g ks.length c f)::fs) s w) (Q:∀x∈fs,x.1≠pf) (O:(g,ok)∈fs) (M:bR ok ks) (C:X.eC ks size) (T:s.opn=false) (hs:X.mL u s'.now s') (hu:u<=340) (U:J.cM (J.cW s)=s') (c2:nm.length<=100/\1<=nm.length) (S:f.mode=0) (t:Bool) (md:Nat) (a5:1<=md/\md<=4) (D:md=2) {n:Nat} (a3:J.look s'.now (X.own nm)=none) (hk:keysOf s'.now ⟨(nm++[0]).toArray⟩=s'.now.map (·.1)) (N:∀k∈s'.now.map (·.1),k.length<=n) (hn:n<=300) (c7:(3+n)*s'.now.length+9+nm.length+(X.attr size ks).length<=11900),Calls Tryz.prog 12 #[.pointer (some ⟨pf,0,none⟩), .int .u8 (md:Nat), .bool t] w λe w'=>e= .returned (.string ⟨#[48,48]⟩)/\At w0 p ((pf,ax p nm size g ks.length c {f with mode:=2,ord:=t,key:=0,at_:=X.pre nm 0,same:=true,lost:=false,read:=false,written:=[]})::fs) (J.aK (X.opened s' (X.fS (s'.now.map (·.1))++[⟨X.own nm,X.attr size ks,false⟩]) [(X.own nm,X.attr size ks)])) w')/\(∀{w0:World} {p pf g c size u:Nat} {nm:J.B} {ks:List X.Ky} {f:Fv} {w:World} {s:J.St} {fs:List (Nat×Obj)} {ok:Obj} {s':J.St} (h:At w0 p ((pf,ax p nm size g ks.length c f)::fs) s w) (Q:∀x∈fs,x.1≠pf) (O:(g,ok)∈fs) (M:bR ok ks) (C:X.eC ks size) (T:s.opn=false) (hs:X.mL u s'.now s') (hu:u<=340) (U:J.cM (J.cW s)=s') (c2:nm.length<=100/\1<=nm.length) (S:f.mode=0) (t:Bool) (md:Nat) (a5:1<=md/\md<=4) (D:md=2) {n:Nat} (a:J.B) (d7:a.length<=90000000) (a3:J.look s'.now (X.own nm)=some a) (hk:keysOf s'.now ⟨(nm++[0]).toArray⟩=s'.now.map (·.1)) (N:∀k∈s'.now.map (·.1),k.length<=n) (hn:n<=300) (c7:(3+n)*s'.now.length+9+nm.length+(X.attr size ks).length<=11900),Calls Tryz.prog 12 #[.pointer (some ⟨pf,0,none⟩), .int .u8 (md:Nat), .bool t] w λe w'=>e= .returned (.string ⟨#[48,48]⟩)/\At w0 p ((pf,ax p nm size g ks.length c {f with mode:=2,ord:=t,key:=0,at_:=X.pre nm 0,same:=true,lost:=false,read:=false,written:=[]})::fs) (J.aK (X.opened s' (X.fS (s'.now.map (·.1))++[⟨X.own nm,X.attr size ks,false⟩]) [(X.own nm,X.attr size ks)])) w')/\(∀{w0:World} {p pf g c size ct:Nat} {nm:J.B} {ks:List X.Ky} {rows:List X.Row} {f:Fv} {w:World} {s:J.St} {fs:List (Nat×Obj)} {ok:Obj} {s':J.St} (h:At w0 p ((pf,ax p nm size g ks.length c f)::fs) s w) (Q:∀x∈fs,x.1≠pf) (O:(g,ok)∈fs) (M:bR ok ks) (C:X.eC ks size) (T:s.opn=false) (U:J.cM (J.cW s)=s') (ht:J.Two s') (a6:nm.length<=100) (S:f.mode=0) (t:Bool) (md:Nat) (a5:1<=md/\md<=4) (D:md≠2) (hX:XF nm size ks rows ct s'.now),Calls Tryz.prog 12 #[.pointer (some ⟨pf,0,none⟩), .int .u8 (md:Nat), .bool t] w λe w'=>e= .returned (.string ⟨#[48,48]⟩)/\At w0 p ((pf,ax p nm size g ks.length c {f with mode:=md,ord:=t,key:=0,at_:=X.pre nm 0,same:=true,lost:=false,read:=false,written:=if md=4 then X.mR ks rows else []})::fs) s' w')/\(∀{w0:World} {p pf g c size:Nat} {nm:J.B} {ks:List X.Ky} {f:Fv} {w:World} {s:J.St} {fs:List (Nat×Obj)} {ok:Obj} {s':J.St} (h:At w0 p ((pf,ax p nm size g ks.length c f)::fs) s w) (Q:∀x∈fs,x.1≠pf) (O:(g,ok)∈fs) (M:bR ok ks) (C:X.eC ks size) (T:s.opn=false) (U:J.cM (J.cW s)=s') (ht:J.Two s') (a6:nm.length<=100) (S:f.mode=0) (t:Bool) (md:Nat) (a5:1<=md/\md<=4) (D:md≠2) (a3:J.look s'.now (X.own nm)=none),Calls Tryz.prog 12 #[.pointer (some ⟨pf,0,none⟩), .int .u8 (md:Nat), .bool t] w λe w'=>e= .returned (.string ⟨#[51,53]⟩)/\At w0 p ((pf,ax p nm size g ks.length c f)::fs) s' w'):=by
 refine⟨?z0, ?z1, ?z2, ?z3⟩
 case' z0=>intro w0 p pf g c size u nm ks f w s fs ok s' h Q O M C T hs hu U c2 S t md a5 D n a3 hk N hn c7
 case' z1=>(intro w0 p pf g c size u nm ks f w s fs ok s' h Q O M C T hs hu U c2 S t md a5 D n a d7 a3 hk N hn c7;have h5:=trivial)
 case' z2=>(intro w0 p pf g c size ct nm ks rows f w s fs ok s' h Q O M C T U ht a6 S t md a5 D hX;have m:=trivial)
 case' z3=>(intro w0 p pf g c size nm ks f w s fs ok s' h Q O M C T U ht a6 S t md a5 D a3;have L:=trivial)
 all_goals
  first
   |have L:=L
    skip
   |skip
    first
     |have m:=m
      have a3:J.look s'.now (X.own nm)=some (X.attr size ks):=hX.con.own;have j8:(X.attr size ks==X.attr size ks)=true:=(by simp);have d7:(X.attr size ks).length<=90000000:=(by rw[X.gN];have:=C.one;omega);have HX:=ae hX
      skip
     |have j3:=ae c2.2
      have a6:=c2.1;clear c2;have ht:J.Two s':=hs.two
    generalize f8:(⟨(X.pre nm 0).toArray⟩:ByteArray)=pp;have d4:=ae f8;first
     |have m:=m
      generalize i9:(if md=4 then X.mR ks rows else [])=wr;have e8:=ae i9;clear hX f8 i9
     |clear f8
      have i4:=C;have i2:=JZ (nm:=nm) i4;have i6:(J.aK (X.opened s' (X.fS (s'.now.map (·.1))++[⟨X.own nm,X.attr size ks,false⟩]) [(X.own nm,X.attr size ks)])).now=[(X.own nm,X.attr size ks)]:=rfl;obtain⟨P,hst⟩:∃P,P=J.aK (X.opened s' (X.fS (s'.now.map (·.1))++[⟨X.own nm,X.attr size ks,false⟩]) [(X.own nm,X.attr size ks)]):=⟨_,rfl⟩;have e7:aa (∀W Bf Bo,At w0 p ((pf,ax p nm size g ks.length c f)::(Bo,aZ ⟨(X.own nm).toArray⟩)::(Bf,aO pf)::fs) s' W->Calls Tryz.prog 45 #[.pointer (some ⟨pf,0,none⟩), .func (.func 46) #[] #[.pointer (some ⟨Bf,0,none⟩), .pointer (some ⟨Bo,0,none⟩)]] W λe w'=>e= .returned (.string ⟨#[48,48]⟩)/\At w0 p ((pf,ax p nm size g ks.length c f)::(Bo,aZ ⟨(X.own nm).toArray⟩)::(Bf,aO pf)::fs) P w'/\J.Two P/\XF nm size ks [] 0 P.now):=ae (λW Bf Bo d=>by
       have hu:=pQ d af hs.opn 46 #[.pointer (some ⟨Bf,0,none⟩), .pointer (some ⟨Bo,0,none⟩)]
        (λxs w=>enters_of Tryz.func46 (by kernel_rfl) rfl xs w) (λs1=>s1=(X.opened s' (X.fS (s'.now.map (·.1))++[⟨X.own nm,X.attr size ks,false⟩]) [(X.own nm,X.attr size ks)])/\X.Tx u s' s1 [(X.own nm,X.attr size ks)])
        (λw1 h1=>(Mw hs hu h1 af (ag _ (ag _ (ag _ O))) M C Bf Bo (ag _ (ag _ af)) (ag _ af) a6 hk N hn c7).mono (λe w' hh=>⟨hh.1,_,hh.2.1,rfl,hh.2.2⟩))
        (λs1 w1 h1 h2=>tI h2.2 _ _ h1)
       refine hu.mono ?_;rintro e w' ⟨he,s1,h1,rfl,h2⟩;rw[hst];refine⟨he,h1,h2.sto.two, ?_⟩;rw[i6];have j9:∀k,J.look [(X.own nm,X.attr size ks)] k=if X.own nm=k then some (X.attr size ks)else none:=λk=>by unfold J.look;simp only[List.find?];split<;>simp_all [J.look]
       exact⟨i2,⟨by simp,by simp,by simp,by simp,List.Pairwise.nil,λ_ _ _=>List.Pairwise.nil,λ_ _ _ _=>List.Pairwise.nil⟩,C,by decide,j3.o,a6,by simp,λk l N=>by
        have k1:l=X.attr size ks:=by
         rw[j9]at N;split at N
         ·injection N with e;exact e.symm
         ·cases N
        rw[k1,X.gN];have:=C.one;omega⟩)
      rw[<-hst];clear i4 i2 i6 hst hs hk N hn c7 hu
  obtain⟨hB,i3⟩:=h.tL Q (aO pf);have HR:=ae (gy (hB.get af));have HI:=ae (zo hB af T);rw[U]at HI;have g7:=ae i3;have m1:¬(md:Int)<1:=(by omega);have m2:¬(4:Int)<(md:Nat):=(by omega);have d3:=ae a6;have g9:=ae a3;first
   |have L:=L
    have d2:=ae ((λl e=>nomatch e:∀l:J.B,(none:Option J.B)=some l->l.length<=90000000))
    skip
   |have m:=m
    have d2:=ae ((λl e=>(by injection e with e;rw[<-e];exact d7):∀l:J.B,some (X.attr size ks)=some l->l.length<=90000000))
    skip
   |have h5:=h5
    have d2:=ae ((λl e=>(by injection e with e;rw[<-e];exact d7):∀l:J.B,some a=some l->l.length<=90000000))
    skip
   |have d2:=ae ((λl e=>nomatch e:∀l:J.B,(none:Option J.B)=some l->l.length<=90000000))
  have HT:=ae ht;have g8:=ae O;have HO:=ae M;have j2:=ae C;have k2:((f.mode:Int) !=0)=false:=(by rw[S];rfl);first
   |have L:=L
    have m3:((md:Int) !=2)=true:=(by simp;omega);have m4:((md:Int)==2)=false:=(by simp;omega);clear D
   |have m:=m
    have m3:((md:Int) !=2)=true:=(by simp;omega);have m4:((md:Int)==2)=false:=(by simp;omega);clear D
   |have m5:((md:Int)==4)=false:=by rw[D];rfl
    have m3:((md:Int) !=2)=false:=(by rw[D];rfl);have m4:((md:Int)==2)=true:=by rw[D];rfl
  clear a6 a3 ht O M C U;clear h Q T hB i3 a5;go_enter Tryz.func12,Tryz.ntmps12;go_wp2_with fail;refine HR.o.mono ?_;rintro e w1 ⟨rfl,hw⟩;subst hw;clear HR;go_wp2_with fail;refine HI.o.mono ?_;rintro e w2 ⟨rfl,ha⟩;have HA:=ae ha;have y:=aj w2 pf (ha.get af);have B:=aj w2 w.heap.size (ha.get (ag _ af));clear ha HI;have HU:=ae (gu nm [65] w2 w2.heap.size rfl (by have:=d3.o;omega) (by simp));have e1:nm++0::[65]=X.own nm:=rfl;rw[e1]at HU;go_wp2_with fail;refine HU.o.mono ?_;rintro e q ⟨rfl,A⟩;have g5:=ae (HA.o.below A);clear A HU e1 HA;have f5:=g5.o.tL g7.o (aZ ⟨(X.own nm).toArray⟩);have b8:=ae f5.1;have a8:=ae f5.2;clear f5 y B g7;have b9:=ae (fF (b8.o.below ((ak _ _).drew)) (X.own nm) (by rw[X.ly];have:=d3.o;omega) (by rw[g9.o];exact d2.o));rw[g9.o]at b9;first
   |have L:=L
    generalize(⟨(X.own nm).toArray⟩:ByteArray)=r at b8 a8 b9
   |have m:=m
    generalize(⟨(X.own nm).toArray⟩:ByteArray)=r at b8 a8 b9
   |generalize(⟨(X.own nm).toArray⟩:ByteArray)=r at b8 a8 b9 e7
  go_wp2_with fail;clear k2 S;refine aJ 10 (.rd 0 (.rd 1 (.rd 2 (.rd 3 (.rd 4 (.wr 5 (.rd 6 (.rd 7 (.rd 8 (.wr 9 .fin)))))))))) (λw'=>At w0 p ((pf,ax p nm size g ks.length c f)::(q.heap.size,aZ r)::(w.heap.size,aO pf)::fs) s' w') (b8.o.below ((ak _ _).drew)) ?_;repeat
   refine aA (v:= ?_) (λw' o=> ?_) (λK b=> ?_);rotate_left
   ·have y:=aj w' pf (o.get (af:(pf,ax p nm size g ks.length c f)∈(pf,ax p nm size g ks.length c f)::(q.heap.size,aZ r)::(w.heap.size,aO pf)::fs));have f6:=aj w' q.heap.size (o.get (ag _ af:(q.heap.size,aZ r)∈(pf,ax p nm size g ks.length c f)::(q.heap.size,aZ r)::(w.heap.size,aO pf)::fs));have B:=aj w' w.heap.size (o.get (ag _ (ag _ af):(w.heap.size,aO pf)∈(pf,ax p nm size g ks.length c f)::(q.heap.size,aZ r)::(w.heap.size,aO pf)::fs));clear o;go_simp;try with_reducible rfl
   go_simp;refine b _ ?_;clear b K
  refine az (λK b=> ?_);go_simp;refine(b9.o).mono ?_;rintro e w5 ⟨v,rfl,c8,h8,j7⟩;have F:=ae h8;have e6:=ae c8;clear h8 c8 j7 b9;refine b.out _ _ (λw'=>At w0 p ((pf,ax p nm size g ks.length c f)::(q.heap.size,aZ r)::(w.heap.size,aO pf)::fs) s' w') (λ_ h=>h) F.o ?_;clear b K;repeat
   refine aA (v:= ?_) (λw' o=> ?_) (λK b=> ?_);rotate_left
   ·have y:=aj w' pf (o.get (af:(pf,ax p nm size g ks.length c f)∈(pf,ax p nm size g ks.length c f)::(q.heap.size,aZ r)::(w.heap.size,aO pf)::fs));have f6:=aj w' q.heap.size (o.get (ag _ af:(q.heap.size,aZ r)∈(pf,ax p nm size g ks.length c f)::(q.heap.size,aZ r)::(w.heap.size,aO pf)::fs));have B:=aj w' w.heap.size (o.get (ag _ (ag _ af):(w.heap.size,aO pf)∈(pf,ax p nm size g ks.length c f)::(q.heap.size,aZ r)::(w.heap.size,aO pf)::fs));clear o;go_simp;try with_reducible rfl
   go_simp;refine b _ ?_;clear b K
  refine az (λK b=> ?_);go_simp;refine b.out _ _ (λw'=>At w0 p ((pf,ax p nm size g ks.length c f)::(q.heap.size,aZ r)::(w.heap.size,aO pf)::fs) s' w') (λ_ h=>h) F.o ?_;clear b K;show wpList _ _ _ _ _ _;clear b8 g5;first
   |have L:=L
    go_wp2;go_ret;exact⟨rfl,Ev F.o⟩
    skip
   |skip
    first
     |have m:=m
      have c8:bT w5 _ v (X.attr size ks):=e6.o;obtain⟨A5,c5,rfl,_,h9⟩:=c8.sl.by
      have h3:=ae h9;have g6:=ae (λW (hh:At w0 p ((pf,ax p nm size g ks.length c f)::(q.heap.size,aZ r)::(w.heap.size,aO pf)::fs) s' W)=>pT nm size g c ks W (HO.o.2 W g (hh.get (ag _ (ag _ (ag _ g8.o))))) j2.o);have B:=aj w5 w.heap.size (F.o.get (ag _ (ag _ af)))
      skip
     |have l7:=ae (e7.o w5 w.heap.size q.heap.size F.o)
    have y:=aj w5 pf (F.o.get af);first
     |have m:=m
      clear c8 h9 e6
     |have B:=aj w5 w.heap.size (F.o.get (ag _ (ag _ af)))
      clear e7 F e6
    go_wp2_with fail;first
     |have m:=m
      refine(g6.o _ F.o).mono ?_;rintro e w6 ⟨v6,rfl,i5,A⟩;have c4:=ae (F.o.below A);obtain⟨A6,c6,rfl,_,i0⟩:=(nU i5).by
      have e4:=ae (iG A5 A6 _ _ c5 c6 _ _ w6 _ _ (h3.o.below A) i0);rw[j8]at e4;clear i5 A i0 h3 g6 F B y;go_wp2_with fail;refine e4.o.mono ?_;rintro e w7 ⟨rfl,k7⟩;subst k7;clear e4
     |refine l7.o.mono ?_
      rintro e w6 ⟨rfl,h6,i8,j0⟩;have c4:=ae h6;have j5:=ae i8;have HX:=ae j0;clear h6 i8 j0 l7 y B HT
    go_wp2_with fail;have b7:w.heap.size≠pf:=a8.o _ (ag _ af);have HP:=ae (λW=>bU nm size (some ⟨g,0,none⟩) ks.length c 0 (by decide) (by have:=d3.o;omega) W);rw[d4.o]at HP;have h0:w6.heap[pf]? =some (ax p nm size g ks.length c f):=c4.o.get af;have b0:w6.heap[w.heap.size]? =some (aO pf):=c4.o.get (ag _ (ag _ af));refine aJ 29 (.rd 0 (.rd 1 (.rd 2 (.rd 3 (.rd 4 (.rd 5 (.rd 6 (.rd 7 (.rd 8 (.rd 9 (.rd 10 (.rd 11 (.wr 12 (.rd 13 (.rd 14 (.rd 15 (.wr 16 (.rd 17 (.rd 18 (.wr 19 (.rd 20 (.rd 21 (.wr 22 (.rd 23 (.rd 24 (.wr 25 (.rd 26 (.rd 27 (.wr 28 .fin))))))))))))))))))))))))))))) (λw'=>(∃f',w'.heap[pf]? =some (ax p nm size g ks.length c f'))/\w'.heap[w.heap.size]? =some (aO pf)) ⟨⟨_,h0⟩,b0⟩ ?_;repeat
     refine aA (v:= ?_) (λw' o=> ?_) (λK b=> ?_);rotate_left
     ·have G:=o;obtain⟨⟨f',r1⟩,r2⟩:=G;have y:=aj w' pf r1;have B:=aj w' w.heap.size r2;clear r1 r2;clear o;go_simp;try with_reducible rfl
     go_simp;refine b _ ?_;clear b K
    refine az (λK b=> ?_);go_simp;refine(HP.o _).mono ?_;rintro e H ⟨rfl,A⟩;have c3:=ae (c4.o.below (((ak _ _).drew).trans A));have c0:H.heap[pf]? =some (ax p nm size g ks.length c f):=c3.o.get af;have f0:H.heap[w.heap.size]? =some (aO pf):=c3.o.get (ag _ (ag _ af));have e0:=ae (World.grownBy.refl H (some pf));refine b.out _ _ (λw'=>(∃f',w'.heap[pf]? =some (ax p nm size g ks.length c f'))/\w'.heap[w.heap.size]? =some (aO pf)) (λ_ h=>h) ⟨⟨_,c0⟩,f0⟩ ?_;clear b K A h0 b0 HP c4;repeat
     refine aA (v:= ?_) (λw' o=> ?_) (λK b=> ?_);rotate_left
     ·have G:=o;obtain⟨⟨f',r1⟩,r2⟩:=G;have y:=aj w' pf r1;have B:=aj w' w.heap.size r2;clear r1 r2;clear o;go_simp;try with_reducible rfl
     go_simp;refine b _ ?_;clear b K
    have E:=aD c0;have y:=aj H pf c0;refine az (λK b=> ?_);go_simp;first
     |have m:=m
      obtain⟨I,d⟩:∃W,(H.setCell ⟨pf,4,none⟩ (.int .u8 (md:Nat)))=W:=⟨_,rfl⟩;have b1:I.heap[pf]? =some (ax p nm size g ks.length c {f with mode:=md}):=by
       rw[<-d];have:=(aB c0 4 (.int .u8 (md:Nat)))
       skip
       exact this
      skip
     |obtain⟨I,d⟩:∃W,(H.setCell ⟨pf,4,none⟩ (.int .u8 2))=W:=⟨_,rfl⟩
      have b1:I.heap[pf]? =some (ax p nm size g ks.length c {f with mode:=2}):=by
       rw[<-d];have:=(aB c0 4 (.int .u8 2))
       skip
       exact this
    have f1:I.heap[w.heap.size]? =some (aO pf):=by
     rw[<-d];rw[Below.heap_setCell _ _ _ _ (by exact b7)];exact f0
    first
     |have m:=m
      have e2:=ae (kS e0.o (by rw[<-d];exact(ay (World.grownBy.refl H (some pf)) 4 (.int .u8 (md:Nat))):H.grownBy I (some pf)))
      skip
     |have e2:=ae (kS e0.o (by rw[<-d];exact(ay (World.grownBy.refl H (some pf)) 4 (.int .u8 2)):H.grownBy I (some pf)))
    refine b.out _ _ (λw'=>(∃f',w'.heap[pf]? =some (ax p nm size g ks.length c f'))/\w'.heap[w.heap.size]? =some (aO pf)) (λ_ h=>h) (by rw[d];exact⟨⟨_,b1⟩,f1⟩) ?_;rw[d];clear b K d E y c0 f0 e0;repeat
     refine aA (v:= ?_) (λw' o=> ?_) (λK b=> ?_);rotate_left
     ·have G:=o;obtain⟨⟨f',r1⟩,r2⟩:=G;have y:=aj w' pf r1;have B:=aj w' w.heap.size r2;clear r1 r2;clear o;go_simp;try with_reducible rfl
     go_simp;refine b _ ?_;clear b K
    have E:=aD b1;have y:=aj I pf b1;refine az (λK b=> ?_);go_simp;obtain⟨Z,d⟩:∃W,(I.setCell ⟨pf,5,none⟩ (.bool t))=W:=⟨_,rfl⟩;first
     |have m:=m
      have b2:Z.heap[pf]? =some (ax p nm size g ks.length c {f with mode:=md,ord:=t}):=by
       rw[<-d];have:=(aB b1 5 (.bool t))
       skip
       exact this
      skip
     |skip
      have b2:Z.heap[pf]? =some (ax p nm size g ks.length c {f with mode:=2,ord:=t}):=by
       rw[<-d];have:=(aB b1 5 (.bool t))
       skip
       exact this
    have f2:Z.heap[w.heap.size]? =some (aO pf):=by
     rw[<-d];rw[Below.heap_setCell _ _ _ _ (by exact b7)];exact f1
    have g2:=ae (kS e2.o (by rw[<-d];exact(ay (World.grownBy.refl I (some pf)) 5 (.bool t)):I.grownBy Z (some pf)));refine b.out _ _ (λw'=>(∃f',w'.heap[pf]? =some (ax p nm size g ks.length c f'))/\w'.heap[w.heap.size]? =some (aO pf)) (λ_ h=>h) (by rw[d];exact⟨⟨_,b2⟩,f2⟩) ?_;rw[d];clear b K d E y b1 f1 e2;repeat
     refine aA (v:= ?_) (λw' o=> ?_) (λK b=> ?_);rotate_left
     ·have G:=o;obtain⟨⟨f',r1⟩,r2⟩:=G;have y:=aj w' pf r1;have B:=aj w' w.heap.size r2;clear r1 r2;clear o;go_simp;try with_reducible rfl
     go_simp;refine b _ ?_;clear b K
    have E:=aD b2;have y:=aj Z pf b2;refine az (λK b=> ?_);go_simp;obtain⟨a0,d⟩:∃W,(Z.setCell ⟨pf,6,none⟩ (.int .i64 0))=W:=⟨_,rfl⟩;first
     |have m:=m
      have b3:a0.heap[pf]? =some (ax p nm size g ks.length c {f with mode:=md,ord:=t,key:=0}):=by
       rw[<-d];have:=(aB b2 6 (.int .i64 0))
       skip
       exact this
      skip
     |skip
      have b3:a0.heap[pf]? =some (ax p nm size g ks.length c {f with mode:=2,ord:=t,key:=0}):=by
       rw[<-d];have:=(aB b2 6 (.int .i64 0))
       skip
       exact this
    have f3:a0.heap[w.heap.size]? =some (aO pf):=by
     rw[<-d];rw[Below.heap_setCell _ _ _ _ (by exact b7)];exact f2
    have g3:=ae (kS g2.o (by rw[<-d];exact(ay (World.grownBy.refl Z (some pf)) 6 (.int .i64 0)):Z.grownBy a0 (some pf)));refine b.out _ _ (λw'=>(∃f',w'.heap[pf]? =some (ax p nm size g ks.length c f'))/\w'.heap[w.heap.size]? =some (aO pf)) (λ_ h=>h) (by rw[d];exact⟨⟨_,b3⟩,f3⟩) ?_;rw[d];clear b K d E y b2 f2 g2;repeat
     refine aA (v:= ?_) (λw' o=> ?_) (λK b=> ?_);rotate_left
     ·have G:=o;obtain⟨⟨f',r1⟩,r2⟩:=G;have y:=aj w' pf r1;have B:=aj w' w.heap.size r2;clear r1 r2;clear o;go_simp;try with_reducible rfl
     go_simp;refine b _ ?_;clear b K
    have E:=aD b3;have y:=aj a0 pf b3;refine az (λK b=> ?_);go_simp;obtain⟨a1,d⟩:∃W,(((a0.setCell ⟨pf,7,none⟩ (.string pp)).setCell ⟨pf,8,none⟩ (.bool true)).setCell ⟨pf,9,none⟩ (.bool false))=W:=⟨_,rfl⟩;first
     |have m:=m
      have b4:a1.heap[pf]? =some (ax p nm size g ks.length c {f with mode:=md,ord:=t,key:=0,at_:=X.pre nm 0,same:=true,lost:=false}):=by
       rw[<-d];have:=(aB (aB (aB b3 7 (.string pp)) 8 (.bool true)) 9 (.bool false));rw[<-d4.o]at this|-;exact this
      skip
     |skip
      have b4:a1.heap[pf]? =some (ax p nm size g ks.length c {f with mode:=2,ord:=t,key:=0,at_:=X.pre nm 0,same:=true,lost:=false}):=by
       rw[<-d];have:=(aB (aB (aB b3 7 (.string pp)) 8 (.bool true)) 9 (.bool false));rw[<-d4.o]at this|-;exact this
    have f4:a1.heap[w.heap.size]? =some (aO pf):=by
     rw[<-d];rw[Below.heap_setCell _ _ _ _ (by exact b7)];rw[Below.heap_setCell _ _ _ _ (by exact b7)];rw[Below.heap_setCell _ _ _ _ (by exact b7)];exact f3
    have l6:=ae (kS g3.o (by rw[<-d];exact(ay (ay (ay (World.grownBy.refl a0 (some pf)) 7 (.string pp)) 8 (.bool true)) 9 (.bool false)):a0.grownBy a1 (some pf)));refine b.out _ _ (λw'=>(∃f',w'.heap[pf]? =some (ax p nm size g ks.length c f'))/\w'.heap[w.heap.size]? =some (aO pf)) (λ_ h=>h) (by rw[d];exact⟨⟨_,b4⟩,f4⟩) ?_;rw[d];clear b K d E y b3 f3 g3;repeat
     refine aA (v:= ?_) (λw' o=> ?_) (λK b=> ?_);rotate_left
     ·have G:=o;obtain⟨⟨f',r1⟩,r2⟩:=G;have y:=aj w' pf r1;have B:=aj w' w.heap.size r2;clear r1 r2;clear o;go_simp;try with_reducible rfl
     go_simp;refine b _ ?_;clear b K
    have E:=aD b4;have y:=aj a1 pf b4;refine az (λK b=> ?_);go_simp;obtain⟨a9,d⟩:∃W,(a1.setCell ⟨pf,11,none⟩ (.bool false))=W:=⟨_,rfl⟩;first
     |have m:=m
      have b5:a9.heap[pf]? =some (ax p nm size g ks.length c {f with mode:=md,ord:=t,key:=0,at_:=X.pre nm 0,same:=true,lost:=false,read:=false}):=by
       rw[<-d];have:=(aB b4 11 (.bool false))
       skip
       exact this
      skip
     |skip
      have b5:a9.heap[pf]? =some (ax p nm size g ks.length c {f with mode:=2,ord:=t,key:=0,at_:=X.pre nm 0,same:=true,lost:=false,read:=false}):=by
       rw[<-d];have:=(aB b4 11 (.bool false))
       skip
       exact this
    have l8:a9.heap[w.heap.size]? =some (aO pf):=by
     rw[<-d];rw[Below.heap_setCell _ _ _ _ (by exact b7)];exact f4
    have e3:=ae (kS l6.o (by rw[<-d];exact(ay (World.grownBy.refl a1 (some pf)) 11 (.bool false)):a1.grownBy a9 (some pf)));refine b.out _ _ (λw'=>(∃f',w'.heap[pf]? =some (ax p nm size g ks.length c f'))/\w'.heap[w.heap.size]? =some (aO pf)) (λ_ h=>h) (by rw[d];exact⟨⟨_,b5⟩,l8⟩) ?_;rw[d];clear b K d E y b4 f4 l6;have E:=aD b5;have y:=aj a9 pf b5;first
     |have m:=m
      have c1:At w0 p ((pf,ax p nm size g ks.length c {f with mode:=md,ord:=t,key:=0,at_:=X.pre nm 0,same:=true,lost:=false,read:=false,written:=[]})::(q.heap.size,aZ r)::(w.heap.size,aO pf)::fs) s' (a9.setCell ⟨pf,12,none⟩ (.string ⟨#[]⟩)):=cR c3.o a8.o HT.o (ay e3.o 12 (.string ⟨#[]⟩)) (aB b5 12 (.string ⟨#[]⟩))
      skip
     |have c1:At w0 p ((pf,ax p nm size g ks.length c {f with mode:=2,ord:=t,key:=0,at_:=X.pre nm 0,same:=true,lost:=false,read:=false,written:=[]})::(q.heap.size,aZ r)::(w.heap.size,aO pf)::fs) P (a9.setCell ⟨pf,12,none⟩ (.string ⟨#[]⟩)):=cR c3.o a8.o j5.o (ay e3.o 12 (.string ⟨#[]⟩)) (aB b5 12 (.string ⟨#[]⟩))
    have V:=ae c1;clear c1 c3 e3 b5 l8;show wpList _ _ _ _ _ _;go_wp2_with fail;clear E y;first
     |have m:=m
      obtain⟨z,d8⟩:∃z:Fv,z={f with mode:=md,ord:=t,key:=0,at_:=X.pre nm 0,same:=true,lost:=false,read:=false,written:=[]}:=⟨_,rfl⟩
      skip
     |obtain⟨z,d8⟩:∃z:Fv,z={f with mode:=2,ord:=t,key:=0,at_:=X.pre nm 0,same:=true,lost:=false,read:=false,written:=[]}:=⟨_,rfl⟩
    rw[<-d8]at V;have d1:=ae d8;clear d8;first
     |have m:=m
      refine aL (λY=>At w0 p ((pf,ax p nm size g ks.length c z)::(q.heap.size,aZ r)::(w.heap.size,aO pf)::fs) s' Y) V.o ?_
     |refine aL (λY=>At w0 p ((pf,ax p nm size g ks.length c z)::(q.heap.size,aZ r)::(w.heap.size,aO pf)::fs) P Y) V.o ?_
    intro k9 c1;have V:=ae c1;clear c1;have HP:=ae (λW=>bU nm size (some ⟨g,0,none⟩) ks.length c 0 (by decide) (by have:=d3.o;omega) W);first
     |have m:=m
      have d6:=λw1 (hh:At w0 p ((pf,ax p nm size g ks.length c z)::(q.heap.size,aZ r)::(w.heap.size,aO pf)::fs) s' w1)=>ie hh ⟨(X.pre nm 0).toArray⟩ (by have:=HX.o.many;omega)
      skip
     |have d6:=λw1 (hh:At w0 p ((pf,ax p nm size g ks.length c z)::(q.heap.size,aZ r)::(w.heap.size,aO pf)::fs) P w1)=>ie hh ⟨(X.pre nm 0).toArray⟩ (by have:=HX.o.many;omega)
    rw[HX.o.con.gP (by have:=HX.o.ks.one;omega) HX.o.rows (by have:=HX.o.ct;omega) (by have:=HX.o.ks.one;omega)]at d6;have e5:=ae d6;clear d6;rw[d4.o]at HP e5;first
     |have m:=m
      refine aJ 9 (.rd 0 (.rd 1 (.rd 2 (.rd 3 (.rd 4 (.rd 5 (.rd 6 (.rd 7 (.wr 8 .fin))))))))) (λw'=>At w0 p ((pf,ax p nm size g ks.length c z)::(q.heap.size,aZ r)::(w.heap.size,aO pf)::fs) s' w') (V.o.below ((ak _ _).drew)) ?_
     |refine aJ 9 (.rd 0 (.rd 1 (.rd 2 (.rd 3 (.rd 4 (.rd 5 (.rd 6 (.rd 7 (.wr 8 .fin))))))))) (λw'=>At w0 p ((pf,ax p nm size g ks.length c z)::(q.heap.size,aZ r)::(w.heap.size,aO pf)::fs) P w') (V.o.below ((ak _ _).drew)) ?_
    repeat
     refine aA (v:= ?_) (λw' o=> ?_) (λK b=> ?_);rotate_left
     ·have y:=aj w' pf (o.get (af:(pf,ax p nm size g ks.length c z)∈(pf,ax p nm size g ks.length c z)::(q.heap.size,aZ r)::(w.heap.size,aO pf)::fs));have f6:=aj w' q.heap.size (o.get (ag _ af:(q.heap.size,aZ r)∈(pf,ax p nm size g ks.length c z)::(q.heap.size,aZ r)::(w.heap.size,aO pf)::fs));have B:=aj w' w.heap.size (o.get (ag _ (ag _ af):(w.heap.size,aO pf)∈(pf,ax p nm size g ks.length c z)::(q.heap.size,aZ r)::(w.heap.size,aO pf)::fs));clear o;go_simp;try with_reducible rfl
     go_simp;refine b _ ?_;clear b K
    refine az (λK b=> ?_);go_simp;refine(HP.o _).mono ?_;rintro e l0 ⟨rfl,A⟩;have c9:=ae (V.o.below (((ak _ _).drew).trans A));clear A HP V;first
     |have m:=m
      refine b.out _ _ (λw'=>At w0 p ((pf,ax p nm size g ks.length c z)::(q.heap.size,aZ r)::(w.heap.size,aO pf)::fs) s' w') (λ_ h=>h) c9.o ?_
     |refine b.out _ _ (λw'=>At w0 p ((pf,ax p nm size g ks.length c z)::(q.heap.size,aZ r)::(w.heap.size,aO pf)::fs) P w') (λ_ h=>h) c9.o ?_
    clear b K;show wpList _ _ _ _ _ _;go_wp2_with fail;refine(e5.o _ c9.o).mono ?_;rintro e j6 ⟨A3,rfl,hst,l9,_,_⟩;have a7:=ae l9;have j4:=ae hst;clear hst l9 e5 c9;first
     |have m:=m
      have b6:((X.cn ks 0 rows).map (X.aN nm ks 0)).length=(X.cn ks 0 rows).length:=List.length_map ..;by_cases h4:md=4
      ·have m5:((md:Int)==4)=true:=(by rw[h4];rfl);by_cases f9:(X.cn ks 0 rows).length=0
       ·have g0:X.cn ks 0 rows=[]:=List.eq_nil_of_length_eq_zero f9;have a4:(if md=4 then X.mR ks rows else [])=[]:=(by rw[if_pos h4];unfold X.mR;rw[g0];rfl);have l5:=ae a4;rw[g0];clear h4 f9 g0 a4 b6;go_wp2;go_ret;refine⟨rfl, ?_⟩;have:=Ev a7.o;rw[d1.o]at this;rw[<-e8.o,l5.o];exact this
       ·have d9:(X.cn ks 0 rows).length - 1<(X.cn ks 0 rows).length:=(by omega);obtain⟨g4,rfl,k0,i7⟩:=j4.o (by rw[b6];omega);have a2:=i7 ((X.cn ks 0 rows).length - 1) (by rw[b6];exact d9);rw[List.getElem_map]at a2;have g1:(X.cn ks 0 rows)[(X.cn ks 0 rows).length - 1]∈rows:=(X.bD ks 0 _ rows).1 (List.getElem_mem d9);have f7:(X.cn ks 0 rows).getLast? =some (X.cn ks 0 rows)[(X.cn ks 0 rows).length - 1]:=(by rw[List.getLast?_eq_getElem?,List.getElem?_eq_getElem d9]);generalize k8:(X.cn ks 0 rows)[(X.cn ks 0 rows).length - 1]=x at a2 g1 f7;replace a2:j6.cell? ⟨g4,(X.cn ks 0 rows).length - 1,none⟩=some (.string ⟨(X.aN nm ks 0 x).toArray⟩):=a2;have a4:(if md=4 then X.mR ks rows else [])=X.val ks 0 x.b:=(by rw[if_pos h4];unfold X.mR;rw[f7]);have l5:=ae a4;have k3:(X.cn ks 0 rows).length<=100000:=by
         have h1:=HX.o.con.gP (by have:=HX.o.ks.one;omega) HX.o.rows (by have:=HX.o.ct;omega) (i:=0) (by have:=HX.o.ks.one;omega);have h2:=iK s'.now ⟨(X.pre nm 0).toArray⟩;rw[h1,List.length_map]at h2;have:=HX.o.many;omega
        have HV:=ae (λw1 (hh:At w0 p ((pf,ax p nm size g ks.length c z)::(q.heap.size,aZ r)::(w.heap.size,aO pf)::fs) s' w1)=>jE (c:=c) HX.o (i:=0) (by have:=HX.o.ks.one;omega) g1 w1 (HO.o.2 w1 g (hh.get (ag _ (ag _ (ag _ g8.o))))));have l4:=ae a2;have k5:IntKind.i64.wrap (((X.cn ks 0 rows).length:Int) - 1)=(((X.cn ks 0 rows).length - 1:Nat):Int):=(by rw[IntKind.wrap_i64];omega);have k6:wrap64 (((X.cn ks 0 rows).length:Int) - 1)=(((X.cn ks 0 rows).length - 1:Nat):Int):=(by rw[IntWalk.wrap64_in _ (by omega)];omega);have l2:(0:Int)<((X.cn ks 0 rows).length:Nat):=(by omega);have l3:0<(X.cn ks 0 rows).length:=(by omega);generalize k4:(X.cn ks 0 rows).length - 1=n1 at a2 d9 k5 k6 l4;have l1:(n1:Int)<((X.cn ks 0 rows).length:Nat):=(by omega);rw[b6];clear k8 i7 k0 f7 a4 a2 h4 g1 f9 b6;generalize(X.cn ks 0 rows).length=nl at*;clear k4 k3;go_wp2_with fail;refine aJ 12 (.rd 0 (.rd 1 (.rd 2 (.rd 3 (.rd 4 (.rd 5 (.rd 6 (.rd 7 (.rd 8 (.rd 9 (.rd 10 (.wr 11 .fin)))))))))))) (λw'=>At w0 p ((pf,ax p nm size g ks.length c z)::(q.heap.size,aZ r)::(w.heap.size,aO pf)::fs) s' w'/\w'.cell? ⟨g4,n1,none⟩=some (.string ⟨(X.aN nm ks 0 x).toArray⟩)) ⟨a7.o.below ((ak _ _).drew),l4.o⟩ ?_;repeat
         refine aA (v:= ?_) (λw' o=> ?_) (λK b=> ?_);rotate_left
         ·have y:=aj w' pf (o.1.get (af:(pf,ax p nm size g ks.length c z)∈(pf,ax p nm size g ks.length c z)::(q.heap.size,aZ r)::(w.heap.size,aO pf)::fs));have f6:=aj w' q.heap.size (o.1.get (ag _ af:(q.heap.size,aZ r)∈(pf,ax p nm size g ks.length c z)::(q.heap.size,aZ r)::(w.heap.size,aO pf)::fs));have B:=aj w' w.heap.size (o.1.get (ag _ (ag _ af):(w.heap.size,aO pf)∈(pf,ax p nm size g ks.length c z)::(q.heap.size,aZ r)::(w.heap.size,aO pf)::fs));have a2:=o.2;clear o;go_simp;try with_reducible rfl
         go_simp;refine b _ ?_;clear b K
        refine az (λK b=> ?_);go_simp;refine(HV.o _ (a7.o.below ((ak _ _).drew))).mono ?_;rintro e e9 ⟨rfl,A⟩;have d0:=ae (a7.o.below (((ak _ _).drew).trans A));have i1:=(A.cell (p:=⟨g4,n1,none⟩) (World.block_lt_of_cell? _ ⟨g4,n1,none⟩ l4.o)).trans l4.o;refine b.out _ _ (λw'=>At w0 p ((pf,ax p nm size g ks.length c z)::(q.heap.size,aZ r)::(w.heap.size,aO pf)::fs) s' w'/\w'.cell? ⟨g4,n1,none⟩=some (.string ⟨(X.aN nm ks 0 x).toArray⟩)) (λ_ h=>h) ⟨d0.o,i1⟩ ?_;clear b K A i1 l4 HV a7;have d5:e9.heap[pf]? =some (ax p nm size g ks.length c z):=d0.o.get af;have E:=aD d5;have y:=aj e9 pf d5;have h7:=cR (f':={z with written:=X.val ks 0 x.b}) d0.o a8.o HT.o (ay (World.grownBy.refl e9 (some pf)) 12 (.string ⟨(X.val ks 0 x.b).toArray⟩)) (aB d5 12 (.string ⟨(X.val ks 0 x.b).toArray⟩));have j1:=ae h7;clear h7 d0 d5;show wpList _ _ _ _ _ _;go_wp2;go_ret;refine⟨rfl, ?_⟩;have:=Ev j1.o;rw[d1.o]at this;rw[<-e8.o,l5.o];exact this
      ·have m5:((md:Int)==4)=false:=(by simp;omega);have a4:(if md=4 then X.mR ks rows else [])=[]:=if_neg h4;have l5:=ae a4;clear h4 a4 b6;go_wp2;go_ret;refine⟨rfl, ?_⟩;have:=Ev a7.o;rw[d1.o]at this;rw[<-e8.o,l5.o];exact this
     |have b6:((X.cn ks 0 []).map (X.aN nm ks 0)).length=(X.cn ks 0 []).length:=List.length_map ..
      go_wp2;go_ret;refine⟨rfl, ?_⟩;have:=Ev a7.o;rw[d1.o]at this;exact this
abbrev Ik:= @Ka.1
abbrev Il:= @Ka.2.1
abbrev Ez:= @Ka.2.2.1
abbrev yJ:= @Ka.2.2.2
end
section
variable {w w' : World} {q g c : Nat} {M : Nat -> Prop} {m m' : X.M} {v v' : Value} {l l' : List HP}
theorem MD (h:fH w q g c M m v l) (md:Nat) (a:Bool) (h0:m.mode=0) (S:1<=md/\md<=4) (n:md≠2) (s:m.there=true) (o:md=4->m.rows=[]):
  Calls Tryz.prog 13 #[.pointer (some ⟨q,0,none⟩), .int .u8 (md:Nat), .bool a] w λe w'=>e= .returned (.string ⟨#[48,48]⟩)/\HR w q g c M (m.opened md a) v l w':=by
 obtain⟨A,b,rfl,Q,_⟩:=h.rows.aU;have I:=h.len;have f:=aj w q h.row;rw[s]at f;have K:=aD h.row;have x:=ae (ay (ay (World.grownBy.refl w (some q)) 6 (.int .u8 (md:Nat))) 7 (.bool a));have C:aa ((((w.setCell ⟨q,6,none⟩ (.int .u8 (md:Nat))).setCell ⟨q,7,none⟩ (.bool a))).heap[q]? =some (gz {m with mode:=md,ord:=a} g c (.slice A l.length b))):=ae (aB (aB h.row 6 (.int .u8 (md:Nat))) 7 (.bool a));have B:=ae h;have t:aa (m.opened md a={m with mode:=md,ord:=a,key:=0,lost:=false,value:=[],at_:=0,same:=true,read:=false,written:=[]}):=ae (by
  unfold X.M.opened;rw[if_neg n,if_neg n,<-s];by_cases d:md=4
  ·rw[if_pos d,o d];rfl
  ·rw[if_neg d])
 have P:¬(0:Int)<(m.mode:Nat):=by omega
 have N:¬(md:Int)<1:=by omega
 have O:¬(4:Int)<(md:Nat):=by omega
 have U:¬((md:Int)=2):=by omega
 have W:¬md=2:=n;have n1:¬md<1:=by omega
 have n2:¬4<md:=by omega
 have V:((md:Int)==2)=false:=by rw[beq_eq_false_iff_ne];omega
 have T:((md:Int) !=2)=true:=by rw[bne_iff_ne];omega
 have L:(md:Int)=4/\l.length=0\/¬(md:Int)=4:=by
  by_cases e:md=4
  ·exact .inl ⟨by omega,by rw[I,o e];rfl⟩
  ·exact .inr (by omega)
 clear h o I s;go_enter Tryz.func13,Tryz.ntmps13;go_upto_region 13 with fail;refine aL (λY=>w.grownBy Y (some q)/\Y.heap[q]? =some (gz {m with mode:=md,ord:=a} g c (.slice A l.length b))) ⟨x.o,C.o⟩ ?_;rintro W1 ⟨G,i⟩;have f:=aj W1 q i;have K:=aD i;have y:=ae (ay (ay (ay (ay G 8 (.int .i64 0)) 9 (.bool false)) 10 (.string ⟨#[]⟩)) 11 (.int .i64 0));have D:aa ((((((W1.setCell ⟨q,8,none⟩ (.int .i64 0)).setCell ⟨q,9,none⟩ (.bool false)).setCell ⟨q,10,none⟩ (.string ⟨#[]⟩)).setCell ⟨q,11,none⟩ (.int .i64 0))).heap[q]? =some (gz {m with mode:=md,ord:=a,key:=0,lost:=false,value:=[],at_:=0} g c (.slice A l.length b))):=ae (aB (aB (aB (aB i 8 (.int .i64 0)) 9 (.bool false)) 10 (.string ⟨#[]⟩)) 11 (.int .i64 0));clear G i x C P N O;go_upto_region 17 with fail;refine aL (λY=>w.grownBy Y (some q)/\Y.heap[q]? =some (gz {m with mode:=md,ord:=a,key:=0,lost:=false,value:=[],at_:=0} g c (.slice A l.length b))) ⟨y.o,D.o⟩ ?_;rintro W2 ⟨H,k⟩;have f:=aj W2 q k;have K:=aD k;have z:=ae (ay (ay (ay H 12 (.bool true)) 14 (.bool false)) 15 (.string ⟨#[]⟩));have E:aa (((((W2.setCell ⟨q,12,none⟩ (.bool true)).setCell ⟨q,14,none⟩ (.bool false)).setCell ⟨q,15,none⟩ (.string ⟨#[]⟩))).heap[q]? =some (gz {m with mode:=md,ord:=a,key:=0,lost:=false,value:=[],at_:=0,same:=true,read:=false,written:=[]} g c (.slice A l.length b))):=ae (aB (aB (aB k 12 (.bool true)) 14 (.bool false)) 15 (.string ⟨#[]⟩));clear H k y D;go_upto_region 20 with fail;refine aL (λY=>w.grownBy Y (some q)/\Y.heap[q]? =some (gz {m with mode:=md,ord:=a,key:=0,lost:=false,value:=[],at_:=0,same:=true,read:=false,written:=[]} g c (.slice A l.length b))) ⟨z.o,E.o⟩ ?_;rintro F ⟨p,r⟩;have f:=aj F q r;have u:aa (HR w q g c M (m.opened md a) (.slice A l.length b) l F):=ae (by
  rw[t.o];exact⟨p,B.o.turn p r rfl rfl⟩)
 clear p r z E B t;rcases L with⟨d,e0⟩|d
 ·rw[e0]at f;go_wp2;go_ret;exact⟨rfl,e0▸u.o⟩
 ·go_wp2;go_ret;exact⟨rfl,u.o⟩
theorem ME {ks:List X.Ky} {l:List HP} {rows:List X.Row} (h:l.map (·.1)=rows) {j:Nat} (a:j+1=(dm ks 0 l).length):X.mR ks rows=X.val ks 0 ((dm ks 0 l)[j]'(by omega)).1.b:=by
 unfold X.mR;rw[<-h,<-rG,List.getLast?_map,List.getLast?_eq_getElem?,show(dm ks 0 l).length - 1=j by omega,List.getElem?_eq_getElem (by omega)];rfl
theorem Rm (n:Nat) (h:1<=n) (a:n<=1000000):wrap64 ((n:Int) - 1)=((n - 1:Nat):Int)/\IntKind.i64.wrap ((n:Int) - 1)=((n - 1:Nat):Int):=by
 have e:wrap64 ((n:Int) - 1)=((n - 1:Nat):Int):=by rw[IntWalk.wrap64_in _ (by omega)];omega
 exact⟨e,by rw[IntKind.wrap_i64];omega⟩
theorem MF (h:fH w q g c M m v l) (hM:∀k,M k->k<w.heap.size) (hf:bY m l) (a:Bool) (h0:m.mode=0) (O:m.there=true) (b1:m.rows≠[]):
  Calls Tryz.prog 13 #[.pointer (some ⟨q,0,none⟩), .int .u8 4, .bool a] w λe w'=>e= .returned (.string ⟨#[48,48]⟩)/\HR w q g c M (m.opened 4 a) v l w':=by
 obtain⟨A,f,rfl,b9,_⟩:=h.rows.aU;have b6:0<l.length:=by rw[h.len];exact List.length_pos_iff.2 b1
 have b7:=ae b6;have s:=aj w q h.row;rw[O]at s;have hz:=aD h.row;have T:=ae (ay (ay (World.grownBy.refl w (some q)) 6 (.int .u8 4)) 7 (.bool a));have a1:aa ((((w.setCell ⟨q,6,none⟩ (.int .u8 4)).setCell ⟨q,7,none⟩ (.bool a))).heap[q]? =some (gz {m with mode:=4,ord:=a} g c (.slice A l.length f))):=ae (aB (aB h.row 6 (.int .u8 4)) 7 (.bool a));have D:=ae h;have d:=ae hf;have Z:=ae hM;have HT:=ae O;have k3:¬(0:Int)<(m.mode:Nat):=by omega
 have c4:(0:Int)<(l.length:Nat):=by omega
 clear h b1 O hf hM;go_enter Tryz.func13,Tryz.ntmps13;go_upto_region 13 with fail;refine aL (λY=>w.grownBy Y (some q)/\Y.heap[q]? =some (gz {m with mode:=4,ord:=a} g c (.slice A l.length f))) ⟨T.o,a1.o⟩ ?_;rintro W1 ⟨a9,y⟩;have s:=aj W1 q y;have hz:=aD y;have U:=ae (ay (ay (ay (ay a9 8 (.int .i64 0)) 9 (.bool false)) 10 (.string ⟨#[]⟩)) 11 (.int .i64 0));have a2:aa ((((((W1.setCell ⟨q,8,none⟩ (.int .i64 0)).setCell ⟨q,9,none⟩ (.bool false)).setCell ⟨q,10,none⟩ (.string ⟨#[]⟩)).setCell ⟨q,11,none⟩ (.int .i64 0))).heap[q]? =some (gz {m with mode:=4,ord:=a,key:=0,lost:=false,value:=[],at_:=0} g c (.slice A l.length f))):=ae (aB (aB (aB (aB y 8 (.int .i64 0)) 9 (.bool false)) 10 (.string ⟨#[]⟩)) 11 (.int .i64 0));clear a9 y T a1 k3;go_upto_region 17 with fail;refine aL (λY=>w.grownBy Y (some q)/\Y.heap[q]? =some (gz {m with mode:=4,ord:=a,key:=0,lost:=false,value:=[],at_:=0} g c (.slice A l.length f))) ⟨U.o,a2.o⟩ ?_;rintro W2 ⟨b0,z⟩;have s:=aj W2 q z;have hz:=aD z;have V:=ae (ay (ay (ay b0 12 (.bool true)) 14 (.bool false)) 15 (.string ⟨#[]⟩));have a3:aa (((((W2.setCell ⟨q,12,none⟩ (.bool true)).setCell ⟨q,14,none⟩ (.bool false)).setCell ⟨q,15,none⟩ (.string ⟨#[]⟩))).heap[q]? =some (gz {m with mode:=4,ord:=a,key:=0,lost:=false,value:=[],at_:=0,same:=true,read:=false,written:=[]} g c (.slice A l.length f))):=ae (aB (aB (aB z 12 (.bool true)) 14 (.bool false)) 15 (.string ⟨#[]⟩));clear b0 z U a2;go_upto_region 20 with fail;refine aL (λY=>w.grownBy Y (some q)/\Y.heap[q]? =some (gz {m with mode:=4,ord:=a,key:=0,lost:=false,value:=[],at_:=0,same:=true,read:=false,written:=[]} g c (.slice A l.length f))) ⟨V.o,a3.o⟩ ?_;rintro W3 ⟨u,L⟩;have s:=aj W3 q L;have B:=D.o.turn u L rfl rfl;have S:=ae u;have a5:=ae (jN B (λk t=>av (Z.o k t) u.size) ⟨d.o.fit,d.o.ts,d.o.ks,d.o.len⟩ 0 d.o.ks.one.1);have Q:=ae B;clear u L V a3 B;go_wp2_with fail;refine a5.o.mono ?_;rintro e p ⟨v4,rfl,G,b2⟩;have o:=ae (Q.o.below G);have n:=ae G;obtain⟨ls,E,a6,a0,W⟩:∃ls:List HP,aa (ls.length=l.length)/\aa (lU p M v4 ls)/\aa (∀x∈ls,x∈l)/\aa (∀j (hj:j+1=ls.length),X.mR m.ks m.rows=X.val m.ks 0 (ls[j]'(by omega)).1.b):=
  ⟨dm m.ks 0 l,ae (kP (ks:=m.ks) 0 l),ae b2,ae (λx hx=>rH l hx),ae (λj hj=>ME D.o.eq hj)⟩
 clear G b2 a5 Q s;have I:l.length - 1<ls.length:=by rw[E.o];omega
 obtain⟨g0,c0,rfl,a7,_⟩:=a6.o.cells I;have P:=a0.o _ (List.getElem_mem I);have K:=W.o (l.length - 1) (by rw[E.o];omega);generalize(ls[l.length - 1]'I)=r at a7 P K;obtain⟨c1,c2⟩:=Rm l.length (by omega) d.o.len;have a8:=(X.aS.1 (d.o.fit r P));have F:=ae (hpart_any o.o.row o.o.ks 0 d.o.ks.one.1 r.1.b (a8.2 _ (X.aY d.o.ks.one.1)) (by have:=d.o.ks.size;omega));have b5:((l.length - 1:Nat):Int)<(l.length:Nat):=by omega
 have b4:=aj p q o.o.row;have a4:aa (∀b,Below p.heap.size p b->b.heap[q]? =some (gz {m with mode:=4,ord:=a,key:=0,lost:=false,value:=[],at_:=0,same:=true,read:=false,written:=[]} g c (.slice A l.length f))):=ae (λb i=>(o.o.below i).row);have C:aa (∀b,Below p.heap.size p b->HR w q g c M (m.opened 4 a) (.slice A l.length f) l (b.setCell ⟨q,15,none⟩ (.string ⟨(X.val m.ks 0 r.1.b).toArray⟩))):=ae (λb i=>by
  have hd:=o.o.below i;have hg:w.grownBy b (some q):=jK (jK S.o ⟨n.o.os,n.o.tape,n.o.output,n.o.size,λk t _=>n.o.block k t⟩) ⟨i.os,i.tape,i.output,i.size,λk t _=>i.block k t⟩;have hr:(b.setCell ⟨q,15,none⟩ (.string ⟨(X.val m.ks 0 r.1.b).toArray⟩)).heap[q]? =some (gz (m.opened 4 a) g c (.slice A l.length f)):=by
   have h1:=aB hd.row 15 (.string ⟨(X.val m.ks 0 r.1.b).toArray⟩);rw[<-K]at h1|-;rw[h1];unfold X.M.opened;rw[<-HT.o];rfl
  exact HR.set ⟨hg,hd⟩ 15 _ hr rfl rfl)
 generalize X.val m.ks 0 r.1.b=pv at F C;clear K P a8 W a0 a6 S n o D Z d HT;rw[E.o];go_wp2_with fail;refine F.o.mono ?_;rintro e b ⟨rfl,H⟩;have N:=a4.o b H;have b8:=aj b q N;have c3:=aD N;have b3:=ae (C.o b H);clear H N C a4 F b4 a7 b5;go_wp2;go_ret;exact⟨rfl,b3.o⟩
end
noncomputable def VM:Code:=(Tryz.f68.body.bind (jG 13)).getD .skip
theorem aeT {i:World} {q g c T:Nat} {m:X.M} {v:Value} {VK a:ByteArray} {Q:Exit->Act->World->Prop} (o:i.heap[q]? =some (gz m g c v)) (p:a=⟨m.value.toArray⟩) (l:QG VK a) (f:Bool) (e:f=(Op.bytesLess a.toList VK.toList||((VK.toList==a.toList)&&(decide (m.at_<T)||(decide (T=m.at_)&&m.same))))) (r D P u4 u5 u6 u9 s t u w x y z A B C E F G H I K L M N O S U V W Y Z a0 a1 a2 a3 a4 a5 a6 a7 a8 a9 b0 b1 b2 b3 b4 b5 b6 b7 b8 g2 g3 g4 g5 g6 g7 g8 g9 h0 h2 h3 h4 h5 h6 h7 h8 h9 i0 i1 i2 i3 i4 i5 i6 i7 i8 i9 j0 j1 j2 j3 j4 j5 j6 j7 j8 b9 c0 c1 c2 c3 c4 c5 c6:Value)
  (h:∀(c7 c8 c9 d0 d1 d2 d3 d4 d5 d6 d7 d8 d9 e0 e1 e2 e3 e4 e5 e6 e7 e8 e9 f0 f1 f2 f3 f4 f5 f6 f7 f8 f9 g0 g1:Value),Q .normal (⟨#[.pointer (some ⟨q,0,none⟩),r,D,P,u4,u5,u6, .string VK, .int .i64 (T:Nat),u9,s,t,u,w,x,y,z,A,B,C,E,F,G,H,I,K,L,M,N,O,S,U,V,W,Y,Z,a0,a1,a2,a3,a4,a5,a6,a7,a8,a9,b0,b1,b2,b3,b4,b5,b6,b7,b8,c7,c8,c9,d0,d1,d2,d3,d4,d5,d6,d7,d8,d9,e0,e1,e2,e3,e4,e5,e6,e7,e8,e9,f0,f1,f2,f3,f4,f5,f6,f7,f8,f9,g0,g1, .bool f,b9,c0,c1,c2,c3,c4,c5,c6],[]⟩:Act) i):Code.wp Tryz.prog VM Q (⟨#[.pointer (some ⟨q,0,none⟩),r,D,P,u4,u5,u6, .string VK, .int .i64 (T:Nat),u9,s,t,u,w,x,y,z,A,B,C,E,F,G,H,I,K,L,M,N,O,S,U,V,W,Y,Z,a0,a1,a2,a3,a4,a5,a6,a7,a8,a9,b0,b1,b2,b3,b4,b5,b6,b7,b8,g2,g3,g4,g5,g6,g7,g8,g9,h0,h2,h3,h4,h5,h6,h7,h8,h9,i0,i1,i2,i3,i4,i5,i6,i7,i8,i9,j0,j1,j2,j3,j4,j5,j6,j7,j8,b9,c0,c1,c2,c3,c4,c5,c6],[]⟩:Act) i:=by
 have d:(Op.bytesLess a.toList VK.toList=true/\(VK.toList==a.toList)=false/\Op.bytesLess VK.toList a.toList=false/\f=true)\/(Op.bytesLess a.toList VK.toList=false/\(VK.toList==a.toList)=false/\Op.bytesLess VK.toList a.toList=true/\f=false)\/(Op.bytesLess a.toList VK.toList=false/\(VK.toList==a.toList)=true/\(m.at_:Int)<(T:Nat)/\f=true)\/(Op.bytesLess a.toList VK.toList=false/\(VK.toList==a.toList)=true/\¬(m.at_:Int)<(T:Nat)/\((T:Int)==(m.at_:Nat))=false/\f=false)\/(Op.bytesLess a.toList VK.toList=false/\(VK.toList==a.toList)=true/\¬(m.at_:Int)<(T:Nat)/\((T:Int)==(m.at_:Nat))=true/\f=m.same):=by
  rcases l with⟨d,b,h1,_⟩|⟨d,b,h1,_⟩|⟨d,b,h1,_⟩<;>rw[h1,b]at e<;>by_cases k:m.at_<T<;>by_cases n:T=m.at_<;>simp[h1,b,d,k,n,e]<;>omega
 clear l e;rcases d with⟨h1,b,d,rfl⟩|⟨h1,b,d,rfl⟩|⟨h1,b,k,rfl⟩|⟨h1,b,k,n,rfl⟩|⟨h1,b,k,n,rfl⟩
 all_goals
  have HX:=ae h;clear h
  conv=>arg 2;whnf
  have l:=aj i q o;rw[<-p]at l;clear o p;go_wp2;exact HX.o _ _ _ _ _ _ _ _ _ _ _ _ _ _ _ _ _ _ _ _ _ _ _ _ _ _ _ _ _ _ _ _ _ _ _
section
variable {w w' : World} {q g c ct : Nat} {M : Nat -> Prop} {m : X.M} {v : Value} {l : List HP}
def NxQ (w:World) (q g c:Nat) (M:Nat->Prop) (m:X.M) (v:Value) (l:List HP) (e:Ending) (w':World):Prop:=e= .returned (.tuple #[.string ⟨(m.next.2.1.getD []).toArray⟩, .string ⟨m.next.2.2.toArray⟩])/\HR w q g c M m.next.1 v l w'
theorem MG (a:X.bP [52,55] [1,3] m.mode=X.good) (b:m.lost=false) {r:X.Row} (h:m.at=some r):m.next=(m.take r,some r.b,m.qO r):=by
 unfold X.M.next;rw[if_neg (Decidable.not_not.2 a),if_neg (by rw[b];decide),h]
theorem MH (a:X.bP [52,55] [1,3] m.mode=X.good) (b:m.lost=false) (h:m.at=none):m.next=(m.dW,none,[49,48]):=by
 unfold X.M.next;rw[if_neg (Decidable.not_not.2 a),if_neg (by rw[b];decide),h]
abbrev nxE (m:X.M):Ending:= .returned (.tuple #[.string ⟨(m.next.2.1.getD []).toArray⟩, .string ⟨m.next.2.2.toArray⟩])
theorem MI (h:fH w q g c M m v l) (a:X.bP [52,55] [1,3] m.mode≠X.good):
  Calls Tryz.prog 68 #[.pointer (some ⟨q,0,none⟩)] w λe w'=>e=nxE m/\HR w q g c M m.next.1 v l w':=by
 unfold nxE X.M.next;rw[if_pos a];have b:=ae (iB h.row [52,55] 1 3 3 [1,3] (by simp) a);have d:=ae (fz h);have j:=jP (tB [52,55] [1,3] m.mode (by decide));obtain⟨f,i⟩:=j;clear h a;show Calls _ _ _ _ λe w'=>e= .returned (.tuple #[.string ⟨#[]⟩, .string ⟨(X.bP [52,55] [1,3] m.mode).toArray⟩])/\HR w q g c M m v l w';generalize(⟨(X.bP [52,55] [1,3] m.mode).toArray⟩:ByteArray)=S at b f i|-;go_enter Tryz.func68,Tryz.ntmps68;go_wp2_with fail;refine b.o.mono ?_;rintro e w1 ⟨rfl,rfl⟩;go_wp2;go_ret2;exact⟨rfl,d.o⟩
theorem Im (h:fH w q g c M m v l) (a:X.bP [52,55] [1,3] m.mode=X.good) (b:m.lost=true):
  Calls Tryz.prog 68 #[.pointer (some ⟨q,0,none⟩)] w λe w'=>e=nxE m/\HR w q g c M m.next.1 v l w':=by
 unfold nxE X.M.next;rw[if_neg (Decidable.not_not.2 a),if_pos b];have d:=ae (eL h.row [52,55] 1 3 3 [1,3] (by simp) (by decide) a);have f:aa (HR w q g c M {m with read:=false} v l (w.setCell ⟨q,14,none⟩ (.bool false))):=ae ((fz h).set 14 (.bool false) (aB h.row 14 _) rfl rfl);have i:=aj w q h.row;have k:=aD h.row;rw[b]at i;clear h a b;show Calls _ _ _ _ λe w'=>e= .returned (.tuple #[.string ⟨#[]⟩, .string ⟨#[52,54]⟩])/\HR w q g c M {m with read:=false} v l w';go_enter Tryz.func68,Tryz.ntmps68;go_wp2_with fail;refine d.o.mono ?_;rintro e w1 ⟨rfl,rfl⟩;go_wp2;go_ret2;exact⟨rfl,f.o⟩
theorem Rn (h:fH w q g c M m v l) (hM:∀k,M k->k<w.heap.size) (T:bY m l) (hr:X.aQ m.ks m.size ct m.rows) (U:m.key<m.ks.length) (p:X.bP [52,55] [1,3] m.mode=X.good) (V:m.lost=false):
  Calls Tryz.prog 68 #[.pointer (some ⟨q,0,none⟩)] w (NxQ w q g c M m v l):=by
 have c1:=ae (λr=>MG (r:=r) p V);have h4:=ae (MH p V);have HM:=ae (eL h.row [52,55] 1 3 3 [1,3] (by simp) (by decide) p);have b2:=aj w q h.row;rw[V]at b2;have Q:=ae h;have O:=ae (T.cn m.key);have a7:=ae (jN h hM T m.key U);have b5:=h.cn m.key;have Z:aa (m.at=((dm m.ks m.key l).map (·.1)).find? (X.uE m.ks m.key m.value m.at_ m.same)):=ae (by unfold X.M.at;rw[b5]);have a9:=ae (λi (hi:i<(dm m.ks m.key l).length)=>QH h hr U hi);have y:=ae U;have b3:(dm m.ks m.key l).length<=1000000:=by rw[kP];exact T.len
 clear h hM T hr U p V b5;go_enter Tryz.func68,Tryz.ntmps68;go_wp2_with fail;refine HM.o.mono ?_;rintro e w1 ⟨rfl,rfl⟩;clear HM;go_wp2_with fail;refine a7.o.mono ?_;rintro e w1 ⟨vs,rfl,a,b6⟩;have a5:=ae a;have B:=ae b6;generalize dm m.ks m.key l=ls at O Z a9 B b3;clear a b6 b2 a7;obtain⟨A,cs,rfl,c9,c7,_,_⟩:=B.o.aU;clear c7 c9;go_wp2_with fail;go_loopw [6] (fun u W=>∃i:Nat,i<=ls.length/\u= .int .i64 i/\aa (∀t (F:t<ls.length),t<i->X.uE m.ks m.key m.value m.at_ m.same ls[t].1=false)/\aa (Below w1.heap.size w1 W)) (fun u _=>ls.length - (intOf u).toNat)
 case atStart=>exact⟨0,Nat.zero_le _,rfl,ae (λt _ h=>absurd h (Nat.not_lt_zero t)),ae (ak _ _)⟩
 case round=>
  obtain⟨i,hi,rfl,a1,G⟩:=hrel;have c4:=ae (B.o.below G.o);have d:=ae (a5.o.trans (G.o.mono a5.o.size));by_cases b:i<ls.length
  ·obtain⟨g0,c0,e0,d0,d1⟩:=B.o.cells b;clear d0 d1;injection e0 with e0 e1 e2;subst e0 e2;have Y:=O.o.ts _ (List.getElem_mem b);obtain⟨gt,c5,a3,d2⟩:=(B.o.tm _ (List.getElem_mem b)).cell (i:=m.key) (by rw[Y];exact y.o);have h2:(i:Int)<(ls.length:Nat):=(by omega);have h1:(m.key:Int)<(ls[i].1.ts.length:Nat):=(by rw[Y];have:=y.o;omega);have f:=ae (λ(W:World) (a:Below wr.heap.size wr W)=>(⟨World.grownBy.refl W (some q),Q.o.below (d.o.trans (a.mono d.o.size)),c4.o.below a⟩:jH W q g c M m v l (.slice (some ⟨g0,0,none⟩) ls.length cs) ls W));have H:=ae (λ(W:World) (a:Below wr.heap.size wr W)=>(f.o W a).md.row);have S:=ae (λ(W:World) (a:Below wr.heap.size wr W)=>(⟨((f.o W a).cells b).1,by rw[((f.o W a).cells b).2,a3],(f.o W a).tm (List.getElem_mem b) a3 (i:=m.key) (by rw[Y];exact y.o)⟩:W.cell? ⟨g0,i*2,none⟩=some (.string ⟨ls[i].1.b.toArray⟩)/\W.cell? ⟨g0,i*2+1,none⟩=some (.slice (some ⟨gt,0,none⟩) ls[i].1.ts.length c5)/\W.cell? ⟨gt,m.key,none⟩=some (xM (ls[i].1.t m.key))));have a2:=ae (λ(W:World) (a:Below wr.heap.size wr W)=>(f.o W a).part rfl O.o y.o (List.getElem_mem b));have a8:=ae (λ(W:World) (a:Below wr.heap.size wr W)=>zx (f.o W a).md (f.o W a).rw_ O.o i b y.o);have L:=ae (dt (X.val m.ks m.key ls[i].1.b) m.value);have N:=ae (tA m.value (X.val m.ks m.key ls[i].1.b));have z:=ae b;have a6:=ae (show i<=1000000 by omega);have a4:=ae (UZ m.ks m.key m.value m.at_ m.same ls[i].1);have I:=ae (El (X.val m.ks m.key ls[i].1.b) m.value);generalize c6:(⟨(X.val m.ks m.key ls[i].1.b).toArray⟩:ByteArray)=VK at a2 L N I;generalize b1:(⟨m.value.toArray⟩:ByteArray)=VV at L N I;have b0:=ae b1;have x:=ae ((ak wr.heap.size wr).drew);clear d2;clear Y a3 b3 c6 b1;go_upto_region 11 with fail;refine aJ 10 (.rd 0 (.rd 1 (.rd 2 (.rd 3 (.rd 4 (.rd 5 (.rd 6 (.rd 7 (.rd 8 (.rd 9 .fin)))))))))) (λw'=>Below wr.heap.size wr w') x.o ?_
   iterate 10
    refine aA (v:= ?_) (λw' n=> ?_) (λK C=> ?_);rotate_left
    ·have p:=aj w' q (H.o w' n);obtain⟨k0,k1,k2⟩:=S.o w' n;clear n;go_simp;try with_reducible rfl
    go_simp;refine C _ ?_;clear C K
   show wpList _ _ _ _ _ _;go_upto_region 12 with(refine(a2.o _ x.o).mono ?_;rintro e w2 ⟨rfl,a⟩);have o:=ae (x.o.trans (a.mono x.o.size)).drew;clear a x a2;refine aJ 9 (.rd 0 (.rd 1 (.rd 2 (.rd 3 (.rd 4 (.rd 5 (.rd 6 (.rd 7 (.rd 8 .fin))))))))) (λw'=>Below wr.heap.size wr w') o.o ?_
   iterate 9
    refine aA (v:= ?_) (λw' n=> ?_) (λK C=> ?_);rotate_left
    ·have p:=aj w' q (H.o w' n);obtain⟨k0,k1,k2⟩:=S.o w' n;clear n;go_simp;try with_reducible rfl
    go_simp;refine C _ ?_;clear C K
   show wpList _ _ _ _ _ _;obtain⟨k0,k1,k2⟩:=S.o _ o.o;go_upto_region 13 with fail;clear k0 k1 k2;have E:=H.o _ o.o;refine aeT E b0.o.symm I.o (X.uE m.ks m.key m.value m.at_ m.same ls[i].1) (by rw[L.o,N.o];exact a4.o) _ _ _ _ _ _ _ _ _ _ _ _ _ _ _ _ _ _ _ _ _ _ _ _ _ _ _ _ _ _ _ _ _ _ _ _ _ _ _ _ _ _ _ _ _ _ _ _ _ _ _ _ _ _ _ _ _ _ _ _ _ _ _ _ _ _ _ _ _ _ _ _ _ _ _ _ _ _ _ _ _ _ _ _ _ _ _ _ _ _ _ _ _ _ _ _ ?_;intro d3 d4 d5 d6 d7 d8 d9 e3 e4 e5 e6 e7 e8 e9 f0 f1 f2 f3 f4 f5 f6 f7 f8 f9 h5 g1 g2 g3 g4 g5 g6 g7 g8 g9 h0;clear E L N a4 b0 I S H;cases hres:X.uE m.ks m.key m.value m.at_ m.same ls[i].1 with
   |true=>
    have a0:aa (m.at=some ls[i].1):=ae (by rw[Z.o];exact jJ z.o a1.o hres);have c3:=ae (a9.o i z.o);clear hres;go_wp2_with fail;refine(a8.o _ o.o).mono ?_;rintro e w3 ⟨rfl,D,b4⟩;have P:=ae D;have b8:=ae b4;clear D b4;go_wp2;go_ret2;have c8:=d.o.trans (o.o.mono d.o.size);unfold NxQ;rw[c1.o _ a0.o];refine⟨?_,(rL Q.o c8).trans ⟨P.o,b8.o⟩⟩;show _=Ending.returned (.tuple #[.string ⟨(ls[i].1.b).toArray⟩, .string ⟨(m.qO ls[i].1).toArray⟩]);exact congrArg (λs:J.B=>Ending.returned (Value.tuple #[.string ⟨(ls[i].1.b).toArray⟩, .string ⟨s.toArray⟩])) c3.o
   |false=>
    have b9:=ae hres;clear hres a8;go_wp2;go_roundw
    case rel=>exact⟨i+1,z.o,by first|exact gB i a6.o|rfl,ae (λt F h6=>by
     by_cases e:t=i
     ·subst e;exact b9.o
     ·exact a1.o t F (by omega)),ae (G.o.trans (o.o.mono G.o.size))⟩
    case measure=>first|exact fy z.o a6.o|exact eH z.o
  ·obtain rfl:i=ls.length:=(by omega);have b7:=ae (λW (a:Below wr.heap.size wr W)=>iA (Q.o.below (d.o.trans (a.mono d.o.size))).row);have a0:aa (m.at=none):=ae (by rw[Z.o];exact lZ (λt F=>a1.o t F F));go_wp2_with fail;refine(b7.o _ (ak _ _)).mono ?_;rintro e w3 ⟨⟨vx,rfl⟩,D,E⟩;have P:=ae D;have c2:=ae E;clear D E;go_wp2;go_ret2;have h3:=rL Q.o d.o;unfold NxQ;rw[h4.o a0.o];exact⟨rfl,h3.trans ⟨P.o,h3.2.turn P.o c2.o rfl rfl⟩⟩
theorem MJ (h:fH w q g c M m v l) (b:∀k,M k->k<w.heap.size) (d:bY m l) (i:X.aQ m.ks m.size ct m.rows) (f:m.key<m.ks.length):
  Calls Tryz.prog 68 #[.pointer (some ⟨q,0,none⟩)] w λe w'=>e=nxE m/\HR w q g c M m.next.1 v l w':=by
 by_cases a:X.bP [52,55] [1,3] m.mode=X.good
 ·cases hl:m.lost with
  |true=>exact Im h a hl
  |false=>exact Rn h b d i f a hl
 ·exact MI h a
end
end Go.Proofs.YtipljcmmokaokaaGreat
