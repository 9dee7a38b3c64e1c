import Derived.Test.YtipljcmmokaokaaGreatQM25
set_option linter.unusedVariables false
set_option linter.unusedSimpArgs false
set_option maxHeartbeats 40000000
namespace Go.Proofs.YtipljcmmokaokaaGreat
open Go.RowKit Go.Lib Go.Maps Go.WideMaps Go.Sort
set_option maxRecDepth 100000
section
variable {w0 : World} {p pf g c size ct u : Nat} {nm : J.B} {ks : List X.Ky} {rows : List X.Row} {f : Fv} {w w' : World} {s s1 s2 : J.St} {fs : List (Nat × Obj)} {ok : Obj}
theorem BA (h0:w.heap[pf]? =some (ax p nm size g ks.length c f)) (hs:X.bM [52,56] [2,4,3] f.mode≠[48,48]) (A:Option Addr) (m cb:Nat):
  Calls Tryz.prog 15 #[.pointer (some ⟨pf,0,none⟩), .slice A m cb] w λe w'=>e= .returned (.string ⟨(X.bM [52,56] [2,4,3] f.mode).toArray⟩)∧Below w.heap.size w w':=by
 have dD:=ae (bG h0 [52,56] [2,4,3] 3 #[.int .u8 2, .int .u8 4, .int .u8 3] rfl rfl (by decide) w.heap.size rfl);have hne:=sG hs;have HB:=ae ((ak _ w).alloc (aq _) (.cells #[.int .u8 2, .int .u8 4, .int .u8 3] 32));generalize(⟨(X.bM [52,56] [2,4,3] f.mode).toArray⟩:ByteArray)=st at dD hne⊢;clear h0 hs;go_enter Tryz.func15,Tryz.ntmps15;go_wp2_with fail;refine dD.out.mono ?_;rintro e W1 ⟨rfl,hW1⟩;subst hW1;clear dD;go_wp2;go_ret;exact⟨rfl,HB.out⟩
theorem MI:(∀{w0:World} {p pf g c size ct:Nat} {nm:J.B} {ks:List X.Ky} {rows:List X.Row} {f:Fv} {w:World} {s:J.St} {fs:List (Nat×Obj)} {ok:Obj} (h:At w0 p ((pf,ax p nm size g ks.length c f)::fs) s w) (hf:∀x∈fs,x.1≠pf) (bC:(g,ok)∈fs) (hO:bJ ok ks) (ht:J.Two s) (hX:XF nm size ks rows ct s.now) (b:J.B) (A:Option Addr) (cb:Nat) (dX:Src w0 p fs (.slice A b.length cb) b) (aZ:X.bj ks size b=true) (hs:X.bM [52,56] [2,4,3] f.mode=[48,48]) (dJ:f.ord=true) (Fk:f.mode≠3) (hle:¬f.written<X.val ks 0 b),Calls Tryz.prog 15 #[.pointer (some ⟨pf,0,none⟩), .slice A b.length cb] w λe w'=>e= .returned (.string ⟨#[50,49]⟩)∧At w0 p ((pf,ax p nm size g ks.length c {f with read:=false})::fs) s w')∧(∀{w0:World} {p pf g c size ct:Nat} {nm:J.B} {ks:List X.Ky} {rows:List X.Row} {f:Fv} {w:World} {s:J.St} {fs:List (Nat×Obj)} {ok:Obj} (h:At w0 p ((pf,ax p nm size g ks.length c f)::fs) s w) (hf:∀x∈fs,x.1≠pf) (bC:(g,ok)∈fs) (hO:bJ ok ks) (ht:J.Two s) (hX:XF nm size ks rows ct s.now) (b:J.B) (A:Option Addr) (cb:Nat) (hs:X.bM [52,56] [2,4,3] f.mode=[48,48]) (aZ:X.bj ks size b=false),Calls Tryz.prog 15 #[.pointer (some ⟨pf,0,none⟩), .slice A b.length cb] w λe w'=>e= .returned (.string ⟨#[52,52]⟩)∧At w0 p ((pf,ax p nm size g ks.length c {f with read:=false})::fs) s w'):=by
 refine⟨?z0, ?z1⟩
 case' z0=>intro w0 p pf g c size ct nm ks rows f w s fs ok h hf bC hO ht hX b A cb dX aZ hs dJ Fk hle
 case' z1=>(intro w0 p pf g c size ct nm ks rows f w s fs ok h hf bC hO ht hX b A cb hs aZ;have aH:=trivial)
 all_goals
  have bg:=hX.ks.one;have El:=ae (λW (hh:At w0 p ((pf,ax p nm size g ks.length c {f with read:=false})::fs) s W)=>nZ nm size g c ks A b.length cb W (hO.2 W g (hh.get (ag _ bC))) (by omega) (λk hk=>by have h1:=hX.ks.key k hk;have h2:=hX.ks.size;omega) b rfl);rw[aZ]at El;have hlt:=(ai (h.get af)).1;have hlt:pf<w.heap.size:=hlt;have dD:=ae (bG (h.get af) [52,56] [2,4,3] 3 #[.int .u8 2, .int .u8 4, .int .u8 3] rfl rfl (by decide) w.heap.size rfl);rw[hs]at dD;have HA:=ae (h.below ((ak _ w).alloc (aq _) (.cells #[.int .u8 2, .int .u8 4, .int .u8 3] 32)));first
   |have aH:=aH
    skip
   |have gz:=ae (λW (hh:At w0 p ((pf,ax p nm size g ks.length c {f with read:=false})::fs) s W)=>cw (X.aF ks 0) (.slice A b.length cb) b bF W (dX _ _ _ fA hh) ((X.aR.1 aZ).2 _ (X.aU bg.1)) (by have h1:=(X.aR.1 aZ).1;have h2:=hX.ks.size;omega))
    have js:(X.aF ks 0).val b=X.val ks 0 b:=rfl;rw[js]at gz;clear js;have gp:=ae (λW (hh:At w0 p ((pf,ax p nm size g ks.length c {f with read:=false})::fs) s W)=>hO.2 W g (hh.get (ag _ bC)));have ej:0<ks.length:=(by omega);have Dg:=ae ej;clear ej;have m3:((f.mode:Int) !=3)=true:=(by simp;omega);have hcs:(Op.bytesLess (⟨(X.val ks 0 b).toArray⟩:ByteArray).toList (⟨f.written.toArray⟩:ByteArray).toList=true)∨(Op.bytesLess (⟨(X.val ks 0 b).toArray⟩:ByteArray).toList (⟨f.written.toArray⟩:ByteArray).toList=false∧((⟨(X.val ks 0 b).toArray⟩:ByteArray).toList==(⟨f.written.toArray⟩:ByteArray).toList)=true):=by
     rw[df,ByteArray.toList_eq,ByteArray.toList_eq,bytesLess_eq];by_cases h3:X.val ks 0 b<f.written
     ·exact .inl (by simpa using h3)
     ·exact .inr ⟨by simpa using h3,by simpa using List.le_antisymm (List.not_lt.1 hle) (List.not_lt.1 h3)⟩
    generalize Qq:(⟨(X.val ks 0 b).toArray⟩:ByteArray)=vb at gz hcs;generalize Yh:(⟨f.written.toArray⟩:ByteArray)=wb at hcs;have Wj:=ae Yh;have HCS:=ae hcs;clear Qq Yh hcs hle Fk
  clear h hs;go_enter Tryz.func15,Tryz.ntmps15;go_wp2_with fail;refine dD.out.mono ?_;rintro e W1 ⟨rfl,hW1⟩;subst hW1;clear dD;refine aM (λX=>At w0 p ((pf,ax p nm size g ks.length c f)::fs) s X∧Below w.heap.size w X) ⟨HA.out,(ak _ w).alloc (aq _) _⟩ ?_;rintro W ⟨ha,sH⟩;clear HA;have h1:W.heap[pf]? =some (ax p nm size g ks.length c f):=ha.get af;have hz:=aC h1;have hc:=aj W pf h1;have HG:=ae (cz (f':={f with read:=false}) ha hf ht (aA (World.grownBy.refl W (some pf)) 11 (.bool false)) (aB h1 11 (.bool false)));clear ha sH hf bC hO ht hX h1 bg hlt;go_wp2_with fail;refine(El.out _ HG.out).mono ?_;rintro e W3 ⟨rfl,hb⟩;have cU:=ae (HG.out.below hb);clear hb HG El hc hz;first
   |have aH:=aH
    go_wp2;go_ret;exact⟨rfl,cU.out⟩
    skip
   |have hc:=aj W3 pf (cU.out.get af)
    have ej:=Dg.out;have bY:=gp.out _ cU.out;have k1:=bY.at_ ej;have k2:=bY.len ej;have k3:=bY.dup ej;rw[Nat.zero_mul]at k1 k2 k3;rw[Nat.zero_add]at k2 k3;have Iu:(0:Int)<(ks.length:Nat):=(by omega);clear bY gp;go_wp2_with fail;refine(gz.out _ cU.out).mono ?_;rintro e W4 ⟨rfl,hb⟩;have cZ:=ae (cU.out.below hb);clear hb gz cU hc k1 k2 k3;have hc:=aj W4 pf (cZ.out.get af);rw[dJ]at hc;rw[Wj.out]at hc;rcases HCS.out with h1|⟨h1,h2⟩
    ·go_wp2;go_ret;exact⟨rfl,cZ.out⟩
    ·go_wp2;go_ret;exact⟨rfl,cZ.out⟩
abbrev yO:= @MI.1
abbrev BB:= @MI.2
theorem MJ:(∀{w0:World} {p pf g c size ct u:Nat} {nm:J.B} {ks:List X.Ky} {rows:List X.Row} {f:Fv} {w:World} {s:J.St} {fs:List (Nat×Obj)} {ok:Obj} (h:At w0 p ((pf,ax p nm size g ks.length c f)::fs) s w) (hf:∀x∈fs,x.1≠pf) (bC:(g,ok)∈fs) (hO:bJ ok ks) (hcap:ks.length≤c) (ht:J.Two s) (hX:XF nm size ks rows ct s.now) (b:J.B) (A:Option Addr) (cb:Nat) (dX:Src w0 p fs (.slice A b.length cb) b) (aZ:X.bj ks size b=true) (hs:X.bM [52,56] [2,4,3] f.mode=[48,48]) (hgo:f.ord=true→f.mode≠3→f.written<X.val ks 0 b) (dK:rows.find? (λr=>decide (X.val ks 0 r.b=X.val ks 0 b))=none) (cq:X.dU (X.bB ks rows b none (ks.length - 1))≠[50,50]) (hZ:X.pn u s.now s) (hu:u≤340) (zv:X.aQ ks size (ct+1) (X.fK ks ct rows b none)) (hro:rows.length≤u),Calls Tryz.prog 15 #[.pointer (some ⟨pf,0,none⟩), .slice A b.length cb] w λe w'=>e= .returned (.string ⟨(X.dU (X.bB ks rows b none (ks.length - 1))).toArray⟩)∧∃s1 now,At w0 p ((pf,ax p nm size g ks.length c {f with read:=false,written:=X.val ks 0 b})::fs) (J.aL s1) w'∧X.Tx u s s1 now∧X.iw nm (X.attr size ks) ks (X.fK ks ct rows b none) (ct+1) now)∧(∀{w0:World} {p pf g c size ct:Nat} {nm:J.B} {ks:List X.Ky} {rows:List X.Row} {f:Fv} {w:World} {s:J.St} {fs:List (Nat×Obj)} {ok:Obj} (h:At w0 p ((pf,ax p nm size g ks.length c f)::fs) s w) (hf:∀x∈fs,x.1≠pf) (bC:(g,ok)∈fs) (hO:bJ ok ks) (hcap:ks.length≤c) (ht:J.Two s) (hX:XF nm size ks rows ct s.now) (b:J.B) (A:Option Addr) (cb:Nat) (dX:Src w0 p fs (.slice A b.length cb) b) (aZ:X.bj ks size b=true) (hs:X.bM [52,56] [2,4,3] f.mode=[48,48]) (hgo:f.ord=true→f.mode≠3→f.written<X.val ks 0 b) (dK:rows.find? (λr=>decide (X.val ks 0 r.b=X.val ks 0 b))=none) (cq:X.dU (X.bB ks rows b none (ks.length - 1))=[50,50]),Calls Tryz.prog 15 #[.pointer (some ⟨pf,0,none⟩), .slice A b.length cb] w λe w'=>e= .returned (.string ⟨#[50,50]⟩)∧At w0 p ((pf,ax p nm size g ks.length c {f with read:=false})::fs) s w')∧(∀{w0:World} {p pf g c size ct:Nat} {nm:J.B} {ks:List X.Ky} {rows:List X.Row} {f:Fv} {w:World} {s:J.St} {fs:List (Nat×Obj)} {ok:Obj} (h:At w0 p ((pf,ax p nm size g ks.length c f)::fs) s w) (hf:∀x∈fs,x.1≠pf) (bC:(g,ok)∈fs) (hO:bJ ok ks) (hcap:ks.length≤c) (ht:J.Two s) (hX:XF nm size ks rows ct s.now) (b:J.B) (A:Option Addr) (cb:Nat) (dX:Src w0 p fs (.slice A b.length cb) b) (aZ:X.bj ks size b=true) (hs:X.bM [52,56] [2,4,3] f.mode=[48,48]) (hgo:f.ord=true→f.mode≠3→f.written<X.val ks 0 b) {o:X.Row} (dK:rows.find? (λr=>decide (X.val ks 0 r.b=X.val ks 0 b))=some o),Calls Tryz.prog 15 #[.pointer (some ⟨pf,0,none⟩), .slice A b.length cb] w λe w'=>e= .returned (.string ⟨#[50,50]⟩)∧At w0 p ((pf,ax p nm size g ks.length c {f with read:=false})::fs) s w'):=by
 refine⟨?z0, ?z1, ?z2⟩
 case' z0=>intro w0 p pf g c size ct u nm ks rows f w s fs ok h hf bC hO hcap ht hX b A cb dX aZ hs hgo dK cq hZ hu zv hro
 case' z1=>(intro w0 p pf g c size ct nm ks rows f w s fs ok h hf bC hO hcap ht hX b A cb dX aZ hs hgo dK cq;have aH:=trivial)
 case' z2=>(intro w0 p pf g c size ct nm ks rows f w s fs ok h hf bC hO hcap ht hX b A cb dX aZ hs hgo o dK;have aJ:=trivial)
 all_goals
  have bg:=hX.ks.one;have El:=ae (λW (hh:At w0 p ((pf,ax p nm size g ks.length c {f with read:=false})::fs) s W)=>nZ nm size g c ks A b.length cb W (hO.2 W g (hh.get (ag _ bC))) (by omega) (λk hk=>by have h1:=hX.ks.key k hk;have h2:=hX.ks.size;omega) b rfl);rw[aZ]at El;have hlt:=(ai (h.get af)).1;have hlt:pf<w.heap.size:=hlt;have dD:=ae (bG (h.get af) [52,56] [2,4,3] 3 #[.int .u8 2, .int .u8 4, .int .u8 3] rfl rfl (by decide) w.heap.size rfl);rw[hs]at dD;have HA:=ae (h.below ((ak _ w).alloc (aq _) (.cells #[.int .u8 2, .int .u8 4, .int .u8 3] 32)));have gz:=ae (λW (hh:At w0 p ((pf,ax p nm size g ks.length c {f with read:=false})::fs) s W)=>cw (X.aF ks 0) (.slice A b.length cb) b bF W (dX _ _ _ fA hh) ((X.aR.1 aZ).2 _ (X.aU bg.1)) (by have h1:=(X.aR.1 aZ).1;have h2:=hX.ks.size;omega));have js:(X.aF ks 0).val b=X.val ks 0 b:=rfl;rw[js]at gz;clear js;have gp:=ae (λW (hh:At w0 p ((pf,ax p nm size g ks.length c {f with read:=false})::fs) s W)=>hO.2 W g (hh.get (ag _ bC)));have ej:0<ks.length:=(by omega);have Dg:=ae ej;clear ej;have nb:=ae (λW (hh:At w0 p ((pf,ax p nm size g ks.length c {f with read:=false})::fs) s W)=>xn (old:=none) (Ao:=none) (no:=0) (co:=0) hh af (ag _ bC) hO hcap hX (dX.more fA) aZ (λ_ e=>nomatch e) rfl);have iq:=ae (λW=>dw nm size (some ⟨g,0,none⟩) ks.length c 0 0 (X.val ks 0 b) (by decide) (by decide) (by have:=hX.nm;omega) (by have h1:=X.aV aZ bg.1;have h2:=hX.lens bg.1;omega) W);have hlk:=hX.con.lR hX.rows (X.val ks 0 b);rw[dK]at hlk;have gT:=ae (λW (hh:At w0 p ((pf,ax p nm size g ks.length c {f with read:=false})::fs) s W)=>fk hh (X.bS nm 0 (X.val ks 0 b) 0) (by have h1:=X.aV aZ bg.1;have h2:=hX.lens bg.1;have h3:=X.cR nm 0 (X.val ks 0 b) 0;have h4:=hX.nm;omega) (λl hl=>by have:=hX.len _ _ hl;omega));rw[hlk]at gT;have hcs:(Op.bytesLess (⟨(X.val ks 0 b).toArray⟩:ByteArray).toList (⟨f.written.toArray⟩:ByteArray).toList=decide (X.val ks 0 b<f.written))∧((⟨(X.val ks 0 b).toArray⟩:ByteArray).toList==(⟨f.written.toArray⟩:ByteArray).toList)=decide (X.val ks 0 b=f.written):=by
   refine⟨?_,df _ _⟩;rw[ByteArray.toList_eq,ByteArray.toList_eq,bytesLess_eq]
  obtain⟨Qr,Qs⟩:=hcs;generalize Yh:(⟨f.written.toArray⟩:ByteArray)=wb at Qr Qs;have Wj:=ae Yh;generalize Qq:(⟨(X.val ks 0 b).toArray⟩:ByteArray)=vb at gz iq Qr Qs;have UB:=ae Qq;generalize(⟨(X.bS nm 0 (X.val ks 0 b) 0).toArray⟩:ByteArray)=ee at iq gT;have Ah:Hid (f.ord=false∨f.ord=true∧f.mode=3∨f.ord=true∧f.mode≠3∧Op.bytesLess vb.toList wb.toList=false∧(vb.toList==wb.toList)=false):=ae (by
   cases dJ:f.ord with
    |false=>exact .inl rfl
    |true=>
     refine .inr ?_;by_cases Fk:f.mode=3
     ·exact .inl ⟨rfl,Fk⟩
     ·refine .inr ⟨rfl,Fk, ?_, ?_⟩
      ·rw[Qr];have:=hgo dJ Fk
       simpa using List.le_of_lt this
      ·rw[Qs];have:=hgo dJ Fk;simp only[decide_eq_false_iff_not];intro e;rw[e]at this;exact absurd this (List.lt_irrefl _))
  clear Yh Qq Qr Qs hgo hlk;first
   |have aJ:=aJ
    skip
   |have aH:=aH
    have MK:(⟨(X.dU (X.bB ks rows b none (ks.length - 1))).toArray⟩:ByteArray)=⟨#[50,50]⟩:=(by rw[cq]);rw[MK]at nb;clear cq MK
   |have hne:=sG cq
    have sP:=ae (λW (hh:At w0 p ((pf,ax p nm size g ks.length c {f with read:=false})::fs) s W)=>Bv hh hf bC hO hcap A cb none 0 0 hZ hu hX dX aZ dK rfl zv hro);have HFF:=ae hf;generalize(⟨(X.dU (X.bB ks rows b none (ks.length - 1))).toArray⟩:ByteArray)=cs at nb hne⊢;clear cq
  clear h hs;go_enter Tryz.func15,Tryz.ntmps15;go_wp2_with fail;refine dD.out.mono ?_;rintro e W1 ⟨rfl,hW1⟩;subst hW1;clear dD;refine aM (λX=>At w0 p ((pf,ax p nm size g ks.length c f)::fs) s X∧Below w.heap.size w X) ⟨HA.out,(ak _ w).alloc (aq _) _⟩ ?_;rintro W ⟨ha,sH⟩;clear HA;have h1:W.heap[pf]? =some (ax p nm size g ks.length c f):=ha.get af;have hz:=aC h1;have hc:=aj W pf h1;have HG:=ae (cz (f':={f with read:=false}) ha hf ht (aA (World.grownBy.refl W (some pf)) 11 (.bool false)) (aB h1 11 (.bool false)));clear ha sH hf bC hO ht hX h1 bg hlt;go_wp2_with fail;refine(El.out _ HG.out).mono ?_;rintro e W3 ⟨rfl,hb⟩;have cU:=ae (HG.out.below hb);clear hb HG El hc hz;have hc:=aj W3 pf (cU.out.get af);have ej:=Dg.out;have bY:=gp.out _ cU.out;have k1:=bY.at_ ej;have k2:=bY.len ej;have k3:=bY.dup ej;rw[Nat.zero_mul]at k1 k2 k3;rw[Nat.zero_add]at k2 k3;have Iu:(0:Int)<(ks.length:Nat):=(by omega);clear bY gp;go_wp2_with fail;refine(gz.out _ cU.out).mono ?_;rintro e W4 ⟨rfl,hb⟩;have cZ:=ae (cU.out.below hb);clear hb gz cU hc k1 k2 k3;have hc:=aj W4 pf (cZ.out.get af);rw[Wj.out]at hc;rcases Ah.out with h1|⟨h1,h2⟩|⟨h1,h2,h3,h4⟩
  ·rw[h1]at hc;go_wp2_with fail;refine(nb.out _ cZ.out).mono ?_;rintro e W5 ⟨rfl,hb⟩;have eI:=ae (cZ.out.below hb);clear hb nb cZ hc;go_wp2_with fail;refine aD 15 (.rd 0 (.rd 1 (.rd 2 (.rd 3 (.rd 4 (.rd 5 (.rd 6 (.rd 7 (.rd 8 (.wr 9 (.wr 10 (.rd 11 (.rd 12 (.rd 13 (.wr 14 .fin))))))))))))))) (λw'=>At w0 p ((pf,ax p nm size g ks.length c {f with read:=false})::fs) s w') (by kernel_rfl) (by kernel_rfl) (λc a d v w h=>by cases d<;>exact h) (eI.out.below ((ak _ _).drew)) ?_;repeat
    refine az (v:= ?_) (by rfl) (by rfl) (λw' hS=> ?_) (λK hK=> ?_);rotate_left
    ·have hc:=aj w' pf (hS.get (af:(pf,ax p nm size g ks.length c {f with read:=false})∈(pf,ax p nm size g ks.length c {f with read:=false})::fs));clear hS;go_simp;try with_reducible rfl
    go_simp;refine hK _ ?_;clear hK K
   refine wpPm_write (by rfl) (λK hK=> ?_);go_simp;refine(iq.out _).mono ?_;rintro e W6 ⟨rfl,hb⟩;have dC:=ae (eI.out.below (((ak _ _).drew).trans hb));clear hb iq eI;refine hK.out _ _ (λw'=>At w0 p ((pf,ax p nm size g ks.length c {f with read:=false})::fs) s w') (λ_ h=>h) dC.out ?_;clear hK K;refine wpPm_write (by rfl) (λK hK=> ?_);go_simp;refine(gT.out _ dC.out).mono ?_;rintro e W7 ⟨v,rfl,jM,oI,_⟩;have cQ:=ae oI;clear oI jM gT dC;refine hK.out _ _ (λw'=>At w0 p ((pf,ax p nm size g ks.length c {f with read:=false})::fs) s w') (λ_ h=>h) cQ.out ?_;clear hK K;repeat
    refine az (v:= ?_) (by rfl) (by rfl) (λw' hS=> ?_) (λK hK=> ?_);rotate_left
    ·have hc:=aj w' pf (hS.get (af:(pf,ax p nm size g ks.length c {f with read:=false})∈(pf,ax p nm size g ks.length c {f with read:=false})::fs));clear hS;go_simp;try with_reducible rfl
    go_simp;refine hK _ ?_;clear hK K
   refine wpPm_write (by rfl) (λK hK=> ?_);go_simp;refine hK.out _ _ (λw'=>At w0 p ((pf,ax p nm size g ks.length c {f with read:=false})::fs) s w') (λ_ h=>h) cQ.out ?_;clear hK K;show wpList _ _ _ _ _ _;first
    |have aJ:=aJ
     skip
    |have aH:=aH
     skip
    |go_wp2_with fail
     refine(sP.out _ cQ.out).mono ?_;rintro e W8 ⟨rfl,s1,now,h8,pM,hcon⟩;have h1:W8.heap[pf]? =some (ax p nm size g ks.length c {f with read:=false}):=h8.get af;have hz:=aC h1;have hc:=aj W8 pf h1;have HG:=ae (cz (f':={f with read:=false,written:=X.val ks 0 b}) h8 HFF.out pM.sto.two (aA (World.grownBy.refl W8 (some pf)) 12 (.string ⟨(X.val ks 0 b).toArray⟩)) (aB h1 12 (.string ⟨(X.val ks 0 b).toArray⟩)));rw[UB.out]at HG;have wh:=ae pM;have Bj:=ae hcon;clear h8 pM hcon h1 sP cQ
   go_wp2;go_ret;first
    |have aJ:=aJ
     exact⟨rfl,cQ.out⟩
     skip
    |have aH:=aH
     exact⟨rfl,cQ.out⟩
     skip
    |exact⟨rfl,_,_,HG.out,wh.out,Bj.out⟩
  ·rw[h1,h2]at hc;go_wp2_with fail;refine(nb.out _ cZ.out).mono ?_;rintro e W5 ⟨rfl,hb⟩;have eI:=ae (cZ.out.below hb);clear hb nb cZ hc;go_wp2_with fail;refine aD 15 (.rd 0 (.rd 1 (.rd 2 (.rd 3 (.rd 4 (.rd 5 (.rd 6 (.rd 7 (.rd 8 (.wr 9 (.wr 10 (.rd 11 (.rd 12 (.rd 13 (.wr 14 .fin))))))))))))))) (λw'=>At w0 p ((pf,ax p nm size g ks.length c {f with read:=false})::fs) s w') (by kernel_rfl) (by kernel_rfl) (λc a d v w h=>by cases d<;>exact h) (eI.out.below ((ak _ _).drew)) ?_;repeat
    refine az (v:= ?_) (by rfl) (by rfl) (λw' hS=> ?_) (λK hK=> ?_);rotate_left
    ·have hc:=aj w' pf (hS.get (af:(pf,ax p nm size g ks.length c {f with read:=false})∈(pf,ax p nm size g ks.length c {f with read:=false})::fs));clear hS;go_simp;try with_reducible rfl
    go_simp;refine hK _ ?_;clear hK K
   refine wpPm_write (by rfl) (λK hK=> ?_);go_simp;refine(iq.out _).mono ?_;rintro e W6 ⟨rfl,hb⟩;have dC:=ae (eI.out.below (((ak _ _).drew).trans hb));clear hb iq eI;refine hK.out _ _ (λw'=>At w0 p ((pf,ax p nm size g ks.length c {f with read:=false})::fs) s w') (λ_ h=>h) dC.out ?_;clear hK K;refine wpPm_write (by rfl) (λK hK=> ?_);go_simp;refine(gT.out _ dC.out).mono ?_;rintro e W7 ⟨v,rfl,jM,oI,_⟩;have cQ:=ae oI;clear oI jM gT dC;refine hK.out _ _ (λw'=>At w0 p ((pf,ax p nm size g ks.length c {f with read:=false})::fs) s w') (λ_ h=>h) cQ.out ?_;clear hK K;repeat
    refine az (v:= ?_) (by rfl) (by rfl) (λw' hS=> ?_) (λK hK=> ?_);rotate_left
    ·have hc:=aj w' pf (hS.get (af:(pf,ax p nm size g ks.length c {f with read:=false})∈(pf,ax p nm size g ks.length c {f with read:=false})::fs));clear hS;go_simp;try with_reducible rfl
    go_simp;refine hK _ ?_;clear hK K
   refine wpPm_write (by rfl) (λK hK=> ?_);go_simp;refine hK.out _ _ (λw'=>At w0 p ((pf,ax p nm size g ks.length c {f with read:=false})::fs) s w') (λ_ h=>h) cQ.out ?_;clear hK K;show wpList _ _ _ _ _ _;first
    |have aJ:=aJ
     skip
    |have aH:=aH
     skip
    |go_wp2_with fail
     refine(sP.out _ cQ.out).mono ?_;rintro e W8 ⟨rfl,s1,now,h8,pM,hcon⟩;have h1:W8.heap[pf]? =some (ax p nm size g ks.length c {f with read:=false}):=h8.get af;have hz:=aC h1;have hc:=aj W8 pf h1;have HG:=ae (cz (f':={f with read:=false,written:=X.val ks 0 b}) h8 HFF.out pM.sto.two (aA (World.grownBy.refl W8 (some pf)) 12 (.string ⟨(X.val ks 0 b).toArray⟩)) (aB h1 12 (.string ⟨(X.val ks 0 b).toArray⟩)));rw[UB.out]at HG;have wh:=ae pM;have Bj:=ae hcon;clear h8 pM hcon h1 sP cQ
   go_wp2;go_ret;first
    |have aJ:=aJ
     exact⟨rfl,cQ.out⟩
     skip
    |have aH:=aH
     exact⟨rfl,cQ.out⟩
     skip
    |exact⟨rfl,_,_,HG.out,wh.out,Bj.out⟩
  ·rw[h1]at hc;have m3:((f.mode:Int) !=3)=true:=(by simp;omega);clear h2;go_wp2_with fail;refine(nb.out _ cZ.out).mono ?_;rintro e W5 ⟨rfl,hb⟩;have eI:=ae (cZ.out.below hb);clear hb nb cZ hc;go_wp2_with fail;refine aD 15 (.rd 0 (.rd 1 (.rd 2 (.rd 3 (.rd 4 (.rd 5 (.rd 6 (.rd 7 (.rd 8 (.wr 9 (.wr 10 (.rd 11 (.rd 12 (.rd 13 (.wr 14 .fin))))))))))))))) (λw'=>At w0 p ((pf,ax p nm size g ks.length c {f with read:=false})::fs) s w') (by kernel_rfl) (by kernel_rfl) (λc a d v w h=>by cases d<;>exact h) (eI.out.below ((ak _ _).drew)) ?_;repeat
    refine az (v:= ?_) (by rfl) (by rfl) (λw' hS=> ?_) (λK hK=> ?_);rotate_left
    ·have hc:=aj w' pf (hS.get (af:(pf,ax p nm size g ks.length c {f with read:=false})∈(pf,ax p nm size g ks.length c {f with read:=false})::fs));clear hS;go_simp;try with_reducible rfl
    go_simp;refine hK _ ?_;clear hK K
   refine wpPm_write (by rfl) (λK hK=> ?_);go_simp;refine(iq.out _).mono ?_;rintro e W6 ⟨rfl,hb⟩;have dC:=ae (eI.out.below (((ak _ _).drew).trans hb));clear hb iq eI;refine hK.out _ _ (λw'=>At w0 p ((pf,ax p nm size g ks.length c {f with read:=false})::fs) s w') (λ_ h=>h) dC.out ?_;clear hK K;refine wpPm_write (by rfl) (λK hK=> ?_);go_simp;refine(gT.out _ dC.out).mono ?_;rintro e W7 ⟨v,rfl,jM,oI,_⟩;have cQ:=ae oI;clear oI jM gT dC;refine hK.out _ _ (λw'=>At w0 p ((pf,ax p nm size g ks.length c {f with read:=false})::fs) s w') (λ_ h=>h) cQ.out ?_;clear hK K;repeat
    refine az (v:= ?_) (by rfl) (by rfl) (λw' hS=> ?_) (λK hK=> ?_);rotate_left
    ·have hc:=aj w' pf (hS.get (af:(pf,ax p nm size g ks.length c {f with read:=false})∈(pf,ax p nm size g ks.length c {f with read:=false})::fs));clear hS;go_simp;try with_reducible rfl
    go_simp;refine hK _ ?_;clear hK K
   refine wpPm_write (by rfl) (λK hK=> ?_);go_simp;refine hK.out _ _ (λw'=>At w0 p ((pf,ax p nm size g ks.length c {f with read:=false})::fs) s w') (λ_ h=>h) cQ.out ?_;clear hK K;show wpList _ _ _ _ _ _;first
    |have aJ:=aJ
     skip
    |have aH:=aH
     skip
    |go_wp2_with fail
     refine(sP.out _ cQ.out).mono ?_;rintro e W8 ⟨rfl,s1,now,h8,pM,hcon⟩;have h1:W8.heap[pf]? =some (ax p nm size g ks.length c {f with read:=false}):=h8.get af;have hz:=aC h1;have hc:=aj W8 pf h1;have HG:=ae (cz (f':={f with read:=false,written:=X.val ks 0 b}) h8 HFF.out pM.sto.two (aA (World.grownBy.refl W8 (some pf)) 12 (.string ⟨(X.val ks 0 b).toArray⟩)) (aB h1 12 (.string ⟨(X.val ks 0 b).toArray⟩)));rw[UB.out]at HG;have wh:=ae pM;have Bj:=ae hcon;clear h8 pM hcon h1 sP cQ
   go_wp2;go_ret;first
    |have aJ:=aJ
     exact⟨rfl,cQ.out⟩
     skip
    |have aH:=aH
     exact⟨rfl,cQ.out⟩
     skip
    |exact⟨rfl,_,_,HG.out,wh.out,Bj.out⟩
abbrev Iw:= @MJ.1
abbrev yP:= @MJ.2.1
abbrev yQ:= @MJ.2.2
end
end Go.Proofs.YtipljcmmokaokaaGreat
