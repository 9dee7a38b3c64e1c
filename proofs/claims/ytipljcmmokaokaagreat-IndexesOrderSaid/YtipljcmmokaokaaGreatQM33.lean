import Derived.Test.YtipljcmmokaokaaGreatQM28
import Derived.Test.YtipljcmmokaokaaGreatQM29
set_option linter.unusedVariables false
set_option linter.unusedSimpArgs false
set_option maxHeartbeats 2000000
namespace Go.Proofs.YtipljcmmokaokaaGreat
open Go.RowKit Go.Lib Go.Maps Go.WideMaps Go.Sort
set_option maxRecDepth 100000
section
variable {w0 : World} {p pf g c size ct u : Nat} {nm : J.B} {ks : List X.Ky} {rows : List X.Row} {f : Fv} {w w' : World} {s s1 s2 : J.St} {fs : List (Nat × Obj)} {ok : Obj}
theorem EX (h0:w.heap[pf]? =some (av p nm size g ks.length c f)) (hs:X.cB [52,57] [3] f.mode≠[48,48]) (A:Option Addr) (m cb:Nat):
  Calls Tryz.prog 26 #[.pointer (some ⟨pf,0,none⟩), .slice A m cb] w fun e w'=>e= .returned (.string ⟨(X.cB [52,57] [3] f.mode).toArray⟩)∧Below w.heap.size w w':=by
 have bR:=aa (aQ h0 [52,57] [3] 1 #[.int .u8 3] rfl rfl (by decide) w.heap.size rfl);have hne:=rV hs;have HB:=aa ((ai _ w).alloc (aj _) (.cells #[.int .u8 3] 32));generalize(⟨(X.cB [52,57] [3] f.mode).toArray⟩:ByteArray)=st at bR hne⊢;clear h0 hs;go_enter Tryz.func26,Tryz.ntmps26;go_wp2_with fail;refine bR.out.mono ?_;rintro e W1 ⟨rfl,hW1⟩;subst hW1;clear bR;go_wp2;go_ret;exact⟨rfl,HB.out⟩
theorem EY (h:At w0 p ((pf,av p nm size g ks.length c f)::fs) s w) (hf:∀x∈fs,x.1≠pf) (bq:(g,ok)∈fs) (hO:bI ok ks) (ht:J.Two s) (hX:XF nm size ks rows ct s.now) (b:J.B) (A:Option Addr) (cb:Nat) (hs:X.cB [52,57] [3] f.mode=[48,48]) (aT:X.bg ks size b=false):
  Calls Tryz.prog 26 #[.pointer (some ⟨pf,0,none⟩), .slice A b.length cb] w fun e w'=>e= .returned (.string ⟨#[52,52]⟩)∧At w0 p ((pf,av p nm size g ks.length c {f with read:=false})::fs) s w':=by
 have aN:=hX.ks.one;have l7:=aa (fun W (hh:At w0 p ((pf,av p nm size g ks.length c {f with read:=false})::fs) s W)=>fT nm size g c ks A b.length cb W (hO.2 W g (hh.get (af _ bq))) (by omega) (fun k hk=>by have h1:=hX.ks.key k hk;have h2:=hX.ks.size;omega) b rfl);rw[aT]at l7;have hlt:=(ah (h.get ae)).1;have hlt:pf<w.heap.size:=hlt;have bR:=aa (aQ (h.get ae) [52,57] [3] 1 #[.int .u8 3] rfl rfl (by decide) w.heap.size rfl);rw[hs]at bR;have HA:=aa (h.below ((ai _ w).alloc (aj _) (.cells #[.int .u8 3] 32)));clear h hs;go_enter Tryz.func26,Tryz.ntmps26;go_wp2_with fail;refine bR.out.mono ?_;rintro e W1 ⟨rfl,hW1⟩;subst hW1;clear bR;refine aG (fun X=>At w0 p ((pf,av p nm size g ks.length c f)::fs) s X∧Below w.heap.size w X) ⟨HA.out,(ai _ w).alloc (aj _) _⟩ ?_;rintro W ⟨ha,kN⟩;clear HA;have h1:W.heap[pf]? =some (av p nm size g ks.length c f):=ha.get ae;have hz:=az h1;have hc:=fun j=>ag W pf j _ _ _ h1;have HG:=aa (bc (f':={f with read:=false}) ha hf ht (ay (World.grownBy.refl W (some pf)) 11 (.bool false)) (aC h1 11 (.bool false)));clear ha kN hf bq hO ht hX h1 aN hlt;go_wp2_with fail;refine(l7.out _ HG.out).mono ?_;rintro e W3 ⟨rfl,hb⟩;have bH:=aa (HG.out.below hb);clear hb HG l7 hc hz;go_wp2;go_ret;exact⟨rfl,bH.out⟩
theorem zL (h:At w0 p ((pf,av p nm size g ks.length c f)::fs) s w) (hf:∀x∈fs,x.1≠pf) (bq:(g,ok)∈fs) (hO:bI ok ks) (ht:J.Two s) (hX:XF nm size ks rows ct s.now) (b:J.B) (A:Option Addr) (cb:Nat) (gQ:Src w0 p fs (.slice A b.length cb) b) (aT:X.bg ks size b=true) (hs:X.cB [52,57] [3] f.mode=[48,48]) (dL:f.ord=true) (qQ:f.read=false):
  Calls Tryz.prog 26 #[.pointer (some ⟨pf,0,none⟩), .slice A b.length cb] w fun e w'=>e= .returned (.string ⟨#[52,51]⟩)∧At w0 p ((pf,av p nm size g ks.length c {f with read:=false})::fs) s w':=by
 have aN:=hX.ks.one;have l7:=aa (fun W (hh:At w0 p ((pf,av p nm size g ks.length c {f with read:=false})::fs) s W)=>fT nm size g c ks A b.length cb W (hO.2 W g (hh.get (af _ bq))) (by omega) (fun k hk=>by have h1:=hX.ks.key k hk;have h2:=hX.ks.size;omega) b rfl);rw[aT]at l7;have hlt:=(ah (h.get ae)).1;have hlt:pf<w.heap.size:=hlt;have bR:=aa (aQ (h.get ae) [52,57] [3] 1 #[.int .u8 3] rfl rfl (by decide) w.heap.size rfl);rw[hs]at bR;have HA:=aa (h.below ((ai _ w).alloc (aj _) (.cells #[.int .u8 3] 32)));have dW:=aa (fun W (hh:At w0 p ((pf,av p nm size g ks.length c {f with read:=false})::fs) s W)=>bD (X.aF ks 0) (.slice A b.length cb) b bL W (gQ _ _ _ cM hh) ((X.aM.1 aT).2 _ (X.aR aN.1)) (by have h1:=(X.aM.1 aT).1;have h2:=hX.ks.size;omega));have iX:(X.aF ks 0).val b=X.val ks 0 b:=rfl;rw[iX]at dW;clear iX;have dK:=aa (fun W (hh:At w0 p ((pf,av p nm size g ks.length c {f with read:=false})::fs) s W)=>hO.2 W g (hh.get (af _ bq)));have cQ:0<ks.length:=by omega
 have tS:=aa cQ;clear cQ;generalize(⟨(X.val ks 0 b).toArray⟩:ByteArray)=vb at dW;have yM:=aa qQ;clear qQ;clear h hs;go_enter Tryz.func26,Tryz.ntmps26;go_wp2_with fail;refine bR.out.mono ?_;rintro e W1 ⟨rfl,hW1⟩;subst hW1;clear bR;refine aG (fun X=>At w0 p ((pf,av p nm size g ks.length c f)::fs) s X∧Below w.heap.size w X) ⟨HA.out,(ai _ w).alloc (aj _) _⟩ ?_;rintro W ⟨ha,kN⟩;clear HA;have h1:W.heap[pf]? =some (av p nm size g ks.length c f):=ha.get ae;have hz:=az h1;have hc:=fun j=>ag W pf j _ _ _ h1;rw[yM.out]at hc;have HG:=aa (bc (f':={f with read:=false}) ha hf ht (ay (World.grownBy.refl W (some pf)) 11 (.bool false)) (aC h1 11 (.bool false)));clear ha kN hf bq hO ht hX h1 aN hlt;go_wp2_with fail;refine(l7.out _ HG.out).mono ?_;rintro e W3 ⟨rfl,hb⟩;have bH:=aa (HG.out.below hb);clear hb HG l7 hc hz;have hc:=fun j=>ag W3 pf j _ _ _ (bH.out.get ae);have cQ:=tS.out;have bh:=dK.out _ bH.out;have k1:=bh.at_ cQ;have k2:=bh.len cQ;have k3:=bh.dup cQ;rw[Nat.zero_mul]at k1 k2 k3;rw[Nat.zero_add]at k2 k3;have pK:(0:Int)<(ks.length:Nat):=by omega
 clear bh dK;go_wp2_with fail;refine(dW.out _ bH.out).mono ?_;rintro e W4 ⟨rfl,hb⟩;have bG:=aa (bH.out.below hb);clear hb dW bH hc k1 k2 k3;have hc:=fun j=>ag W4 pf j _ _ _ (bG.out.get ae);rw[dL]at hc;go_wp2;go_ret;exact⟨rfl,bG.out⟩
theorem Co (h:At w0 p ((pf,av p nm size g ks.length c f)::fs) s w) (hf:∀x∈fs,x.1≠pf) (bq:(g,ok)∈fs) (hO:bI ok ks) (ht:J.Two s) (hX:XF nm size ks rows ct s.now) (b:J.B) (A:Option Addr) (cb:Nat) (gQ:Src w0 p fs (.slice A b.length cb) b) (aT:X.bg ks size b=true) (hs:X.cB [52,57] [3] f.mode=[48,48]) (dL:f.ord=true) (qQ:f.read=true) (hne:X.val ks 0 b≠f.last):
  Calls Tryz.prog 26 #[.pointer (some ⟨pf,0,none⟩), .slice A b.length cb] w fun e w'=>e= .returned (.string ⟨#[50,49]⟩)∧At w0 p ((pf,av p nm size g ks.length c {f with read:=false})::fs) s w':=by
 have aN:=hX.ks.one;have l7:=aa (fun W (hh:At w0 p ((pf,av p nm size g ks.length c {f with read:=false})::fs) s W)=>fT nm size g c ks A b.length cb W (hO.2 W g (hh.get (af _ bq))) (by omega) (fun k hk=>by have h1:=hX.ks.key k hk;have h2:=hX.ks.size;omega) b rfl);rw[aT]at l7;have hlt:=(ah (h.get ae)).1;have hlt:pf<w.heap.size:=hlt;have bR:=aa (aQ (h.get ae) [52,57] [3] 1 #[.int .u8 3] rfl rfl (by decide) w.heap.size rfl);rw[hs]at bR;have HA:=aa (h.below ((ai _ w).alloc (aj _) (.cells #[.int .u8 3] 32)));have dW:=aa (fun W (hh:At w0 p ((pf,av p nm size g ks.length c {f with read:=false})::fs) s W)=>bD (X.aF ks 0) (.slice A b.length cb) b bL W (gQ _ _ _ cM hh) ((X.aM.1 aT).2 _ (X.aR aN.1)) (by have h1:=(X.aM.1 aT).1;have h2:=hX.ks.size;omega));have iX:(X.aF ks 0).val b=X.val ks 0 b:=rfl;rw[iX]at dW;clear iX;have dK:=aa (fun W (hh:At w0 p ((pf,av p nm size g ks.length c {f with read:=false})::fs) s W)=>hO.2 W g (hh.get (af _ bq)));have cQ:0<ks.length:=by omega
 have tS:=aa cQ;clear cQ;have hq:=ea (X.val ks 0 b) f.last;generalize vB:(⟨(X.val ks 0 b).toArray⟩:ByteArray)=vb at dW hq;generalize xu:(⟨f.last.toArray⟩:ByteArray)=lb at hq;have K1:=aa xu;have yM:=aa qQ;clear vB xu qQ;rw[show decide (X.val ks 0 b=f.last)=false by simpa using hne]at hq;clear hne;clear h hs;go_enter Tryz.func26,Tryz.ntmps26;go_wp2_with fail;refine bR.out.mono ?_;rintro e W1 ⟨rfl,hW1⟩;subst hW1;clear bR;refine aG (fun X=>At w0 p ((pf,av p nm size g ks.length c f)::fs) s X∧Below w.heap.size w X) ⟨HA.out,(ai _ w).alloc (aj _) _⟩ ?_;rintro W ⟨ha,kN⟩;clear HA;have h1:W.heap[pf]? =some (av p nm size g ks.length c f):=ha.get ae;have hz:=az h1;have hc:=fun j=>ag W pf j _ _ _ h1;rw[yM.out]at hc;have HG:=aa (bc (f':={f with read:=false}) ha hf ht (ay (World.grownBy.refl W (some pf)) 11 (.bool false)) (aC h1 11 (.bool false)));clear ha kN hf bq hO ht hX h1 aN hlt;go_wp2_with fail;refine(l7.out _ HG.out).mono ?_;rintro e W3 ⟨rfl,hb⟩;have bH:=aa (HG.out.below hb);clear hb HG l7 hc hz;have hc:=fun j=>ag W3 pf j _ _ _ (bH.out.get ae);have cQ:=tS.out;have bh:=dK.out _ bH.out;have k1:=bh.at_ cQ;have k2:=bh.len cQ;have k3:=bh.dup cQ;rw[Nat.zero_mul]at k1 k2 k3;rw[Nat.zero_add]at k2 k3;have pK:(0:Int)<(ks.length:Nat):=by omega
 clear bh dK;go_wp2_with fail;refine(dW.out _ bH.out).mono ?_;rintro e W4 ⟨rfl,hb⟩;have bG:=aa (bH.out.below hb);clear hb dW bH hc k1 k2 k3;have hc:=fun j=>ag W4 pf j _ _ _ (bG.out.get ae);rw[dL,K1.out]at hc;go_wp2;go_ret;exact⟨rfl,bG.out⟩
theorem EZ (h:At w0 p ((pf,av p nm size g ks.length c f)::fs) s w) (hf:∀x∈fs,x.1≠pf) (bq:(g,ok)∈fs) (hO:bI ok ks) (hcap:ks.length≤c) (ht:J.Two s) (hX:XF nm size ks rows ct s.now) (b:J.B) (A:Option Addr) (cb:Nat) (gQ:Src w0 p fs (.slice A b.length cb) b) (aT:X.bg ks size b=true) (hs:X.cB [52,57] [3] f.mode=[48,48]) (hgo:f.ord=true→f.read=true∧X.val ks 0 b=f.last) (eh:rows.find? (fun r=>decide (X.val ks 0 r.b=X.val ks 0 b))=none):
  Calls Tryz.prog 26 #[.pointer (some ⟨pf,0,none⟩), .slice A b.length cb] w fun e w'=>e= .returned (.string ⟨#[50,51]⟩)∧At w0 p ((pf,av p nm size g ks.length c {f with read:=false})::fs) s w':=by
 have aN:=hX.ks.one;have l7:=aa (fun W (hh:At w0 p ((pf,av p nm size g ks.length c {f with read:=false})::fs) s W)=>fT nm size g c ks A b.length cb W (hO.2 W g (hh.get (af _ bq))) (by omega) (fun k hk=>by have h1:=hX.ks.key k hk;have h2:=hX.ks.size;omega) b rfl);rw[aT]at l7;have hlt:=(ah (h.get ae)).1;have hlt:pf<w.heap.size:=hlt;have bR:=aa (aQ (h.get ae) [52,57] [3] 1 #[.int .u8 3] rfl rfl (by decide) w.heap.size rfl);rw[hs]at bR;have HA:=aa (h.below ((ai _ w).alloc (aj _) (.cells #[.int .u8 3] 32)));have dW:=aa (fun W (hh:At w0 p ((pf,av p nm size g ks.length c {f with read:=false})::fs) s W)=>bD (X.aF ks 0) (.slice A b.length cb) b bL W (gQ _ _ _ cM hh) ((X.aM.1 aT).2 _ (X.aR aN.1)) (by have h1:=(X.aM.1 aT).1;have h2:=hX.ks.size;omega));have iX:(X.aF ks 0).val b=X.val ks 0 b:=rfl;rw[iX]at dW;clear iX;have dK:=aa (fun W (hh:At w0 p ((pf,av p nm size g ks.length c {f with read:=false})::fs) s W)=>hO.2 W g (hh.get (af _ bq)));have cQ:0<ks.length:=by omega
 have tS:=aa cQ;clear cQ;have dA:=aa (fun W=>cy nm size (some ⟨g,0,none⟩) ks.length c 0 0 (X.val ks 0 b) (by decide) (by decide) (by have:=hX.nm;omega) (by have h1:=X.aP aT aN.1;have h2:=hX.lens aN.1;omega) W);have hlk:=hX.con.iQ hX.rows (X.val ks 0 b);rw[eh]at hlk;have cS:=aa (fun W (hh:At w0 p ((pf,av p nm size g ks.length c {f with read:=false})::fs) s W)=>dJ hh (X.bP nm 0 (X.val ks 0 b) 0) (by have h1:=X.aP aT aN.1;have h2:=hX.lens aN.1;have h3:=X.b9 nm 0 (X.val ks 0 b) 0;have h4:=hX.nm;omega) (fun l hl=>by have:=hX.len _ _ hl;omega));rw[hlk]at cS;have hq:=ea (X.val ks 0 b) f.last;generalize vB:(⟨(X.val ks 0 b).toArray⟩:ByteArray)=vb at dW dA hq;generalize xu:(⟨f.last.toArray⟩:ByteArray)=lb at hq;generalize(⟨(X.bP nm 0 (X.val ks 0 b) 0).toArray⟩:ByteArray)=ee at dA cS;have K1:=aa xu;have MA:=aa vB;have xS:Hid (f.ord=false∨f.ord=true∧f.read=true∧(vb.toList==lb.toList)=true):=aa (by
  cases dL:f.ord with
  |false=>exact .inl rfl
  |true=>exact .inr ⟨rfl,(hgo dL).1,by rw[hq];simpa using (hgo dL).2⟩)
 clear vB xu hq hgo hlk;clear h hs;go_enter Tryz.func26,Tryz.ntmps26;go_wp2_with fail;refine bR.out.mono ?_;rintro e W1 ⟨rfl,hW1⟩;subst hW1;clear bR;refine aG (fun X=>At w0 p ((pf,av p nm size g ks.length c f)::fs) s X∧Below w.heap.size w X) ⟨HA.out,(ai _ w).alloc (aj _) _⟩ ?_;rintro W ⟨ha,kN⟩;clear HA;have h1:W.heap[pf]? =some (av p nm size g ks.length c f):=ha.get ae;have hz:=az h1;have hc:=fun j=>ag W pf j _ _ _ h1;have HG:=aa (bc (f':={f with read:=false}) ha hf ht (ay (World.grownBy.refl W (some pf)) 11 (.bool false)) (aC h1 11 (.bool false)));clear ha kN hf bq hO ht hX h1 aN hlt;go_wp2_with fail;refine(l7.out _ HG.out).mono ?_;rintro e W3 ⟨rfl,hb⟩;have bH:=aa (HG.out.below hb);clear hb HG l7 hc hz;have hc:=fun j=>ag W3 pf j _ _ _ (bH.out.get ae);have cQ:=tS.out;have bh:=dK.out _ bH.out;have k1:=bh.at_ cQ;have k2:=bh.len cQ;have k3:=bh.dup cQ;rw[Nat.zero_mul]at k1 k2 k3;rw[Nat.zero_add]at k2 k3;have pK:(0:Int)<(ks.length:Nat):=by omega
 clear bh dK;go_wp2_with fail;refine(dW.out _ bH.out).mono ?_;rintro e W4 ⟨rfl,hb⟩;have bG:=aa (bH.out.below hb);clear hb dW bH hc k1 k2 k3;have hc:=fun j=>ag W4 pf j _ _ _ (bG.out.get ae);rw[K1.out]at hc;rcases xS.out with h1|⟨h1,h2,h3⟩
 ·rw[h1]at hc;go_wp2_with fail;clear hc;refine aA 15 (.rd 0 (.rd 1 (.rd 2 (.rd 3 (.rd 4 (.rd 5 (.rd 6 (.rd 7 (.rd 8 (.wr 9 (.wr 10 (.rd 11 (.rd 12 (.rd 13 (.wr 14 .fin))))))))))))))) (fun w'=>At w0 p ((pf,av p nm size g ks.length c {f with read:=false})::fs) s w') (by kernel_rfl) (by kernel_rfl) (fun c a d v w h=>by cases d<;>exact h) (bG.out.below ((ai _ _).drew)) ?_;repeat
   refine aw (v:= ?_) (by rfl) (by rfl) (fun w' hS=> ?_) (fun K hK=> ?_);rotate_left
   ·have hc:=fun j=>ag w' pf j _ _ _ (hS.get (ae:(pf,av p nm size g ks.length c {f with read:=false})∈(pf,av p nm size g ks.length c {f with read:=false})::fs));clear hS;go_simp;try with_reducible rfl
   go_simp;refine hK _ ?_;clear hK K
  refine wpPm_write (by rfl) (fun K hK=> ?_);go_simp;refine(dA.out _).mono ?_;rintro e W6 ⟨rfl,hb⟩;have bK:=aa (bG.out.below (((ai _ _).drew).trans hb));clear hb dA bG;refine hK.out _ _ (fun w'=>At w0 p ((pf,av p nm size g ks.length c {f with read:=false})::fs) s w') (fun _ h=>h) bK.out ?_;clear hK K;refine wpPm_write (by rfl) (fun K hK=> ?_);go_simp;refine(cS.out _ bK.out).mono ?_;rintro e W7 ⟨v,rfl,dB,ed,kS⟩;have bz:=aa ed;have pj:=aa dB;clear ed dB kS cS bK;refine hK.out _ _ (fun w'=>At w0 p ((pf,av p nm size g ks.length c {f with read:=false})::fs) s w') (fun _ h=>h) bz.out ?_;clear hK K;repeat
   refine aw (v:= ?_) (by rfl) (by rfl) (fun w' hS=> ?_) (fun K hK=> ?_);rotate_left
   ·have hc:=fun j=>ag w' pf j _ _ _ (hS.get (ae:(pf,av p nm size g ks.length c {f with read:=false})∈(pf,av p nm size g ks.length c {f with read:=false})::fs));clear hS;go_simp;try with_reducible rfl
   go_simp;refine hK _ ?_;clear hK K
  refine wpPm_write (by rfl) (fun K hK=> ?_);go_simp;refine hK.out _ _ (fun w'=>At w0 p ((pf,av p nm size g ks.length c {f with read:=false})::fs) s w') (fun _ h=>h) bz.out ?_;clear hK K;show wpList _ _ _ _ _ _;go_wp2;go_ret;exact⟨rfl,bz.out⟩
 ·rw[h1]at hc;go_wp2_with fail;clear hc;refine aA 15 (.rd 0 (.rd 1 (.rd 2 (.rd 3 (.rd 4 (.rd 5 (.rd 6 (.rd 7 (.rd 8 (.wr 9 (.wr 10 (.rd 11 (.rd 12 (.rd 13 (.wr 14 .fin))))))))))))))) (fun w'=>At w0 p ((pf,av p nm size g ks.length c {f with read:=false})::fs) s w') (by kernel_rfl) (by kernel_rfl) (fun c a d v w h=>by cases d<;>exact h) (bG.out.below ((ai _ _).drew)) ?_;repeat
   refine aw (v:= ?_) (by rfl) (by rfl) (fun w' hS=> ?_) (fun K hK=> ?_);rotate_left
   ·have hc:=fun j=>ag w' pf j _ _ _ (hS.get (ae:(pf,av p nm size g ks.length c {f with read:=false})∈(pf,av p nm size g ks.length c {f with read:=false})::fs));clear hS;go_simp;try with_reducible rfl
   go_simp;refine hK _ ?_;clear hK K
  refine wpPm_write (by rfl) (fun K hK=> ?_);go_simp;refine(dA.out _).mono ?_;rintro e W6 ⟨rfl,hb⟩;have bK:=aa (bG.out.below (((ai _ _).drew).trans hb));clear hb dA bG;refine hK.out _ _ (fun w'=>At w0 p ((pf,av p nm size g ks.length c {f with read:=false})::fs) s w') (fun _ h=>h) bK.out ?_;clear hK K;refine wpPm_write (by rfl) (fun K hK=> ?_);go_simp;refine(cS.out _ bK.out).mono ?_;rintro e W7 ⟨v,rfl,dB,ed,kS⟩;have bz:=aa ed;have pj:=aa dB;clear ed dB kS cS bK;refine hK.out _ _ (fun w'=>At w0 p ((pf,av p nm size g ks.length c {f with read:=false})::fs) s w') (fun _ h=>h) bz.out ?_;clear hK K;repeat
   refine aw (v:= ?_) (by rfl) (by rfl) (fun w' hS=> ?_) (fun K hK=> ?_);rotate_left
   ·have hc:=fun j=>ag w' pf j _ _ _ (hS.get (ae:(pf,av p nm size g ks.length c {f with read:=false})∈(pf,av p nm size g ks.length c {f with read:=false})::fs));clear hS;go_simp;try with_reducible rfl
   go_simp;refine hK _ ?_;clear hK K
  refine wpPm_write (by rfl) (fun K hK=> ?_);go_simp;refine hK.out _ _ (fun w'=>At w0 p ((pf,av p nm size g ks.length c {f with read:=false})::fs) s w') (fun _ h=>h) bz.out ?_;clear hK K;show wpList _ _ _ _ _ _;go_wp2;go_ret;exact⟨rfl,bz.out⟩
end
section
variable {w0 w w' : World} {p : Nat} {s : J.St} {fs : List (Nat × Obj)} {F : Nat × Obj} {v : Value} {o : X.Row}
theorem At.old (h:At w0 p (F::fs) s w) (hb:Below w.heap.size w w') (hv:cE w' (· <w.heap.size) v o.b) (h0:o.b≠[]):
  ∃x:Nat×Obj,At w0 p (F::x::fs) s w'∧w.heap.size≤x.1∧qz w0 p (x::fs) v (some o)∧∃b off,v= .slice (some ⟨b,off,none⟩) o.b.length o.b.length:=by
 rcases hv with⟨_,e⟩|⟨b,off,rfl,h1,⟨h2,cur,fr,h3⟩,hm,hby⟩
 ·exact absurd e h0
 ·have hbl:w.heap.size≤b:=Nat.le_of_not_lt hm;refine⟨(b, .cells cur 5 (0,0)), ?_,hbl,⟨⟨b,off,_,rfl⟩,fun gs t w1 hg ha=> ?_⟩,b,off,rfl⟩
  ·refine(h.add hb (gs:=[(b, .cells cur 5 (0,0))]) (fun x hx=> ?_)).less (fun x hx=> ?_)
   ·simp only[List.mem_singleton]at hx;subst hx;exact⟨hbl,h3⟩
   ·simp only[List.mem_cons,List.mem_append,List.not_mem_nil,or_false]at hx⊢;rcases hx with h|h|h
    ·exact .inr (.inl h)
    ·exact .inl h
    ·exact .inr (.inr h)
  ·have hr:w1.heap[b]? =some (.cells cur 5 (0,0)):=ha.get (hg _ ae);have hlt:b<w1.heap.size:=(ah hr).1;refine .inr ⟨b,off,_,rfl,aj _,hlt,hby.1,fun hn=> ?_⟩;obtain⟨b',o',e,_,_,hc⟩:=hby.2 hn;injection e with e;injection e with e1 e2 e3;subst e1 e2;exact⟨b,off,rfl,hlt,fun h=>h,fun j hj=>(World.cell?_of_block (hr.trans h3.symm)).trans (hc j hj)⟩
end
section
variable {w0 : World} {p pf g c size ct u : Nat} {nm : J.B} {ks : List X.Ky} {rows : List X.Row} {f : Fv} {w w' : World} {s s1 s2 : J.St} {fs : List (Nat × Obj)} {ok : Obj}
theorem Cp (h:At w0 p ((pf,av p nm size g ks.length c f)::fs) s w) (hf:∀x∈fs,x.1≠pf) (bq:(g,ok)∈fs) (hO:bI ok ks) (hcap:ks.length≤c) (ht:J.Two s) (hX:XF nm size ks rows ct s.now) (b:J.B) (A:Option Addr) (cb:Nat) (gQ:Src w0 p fs (.slice A b.length cb) b) (aT:X.bg ks size b=true) (hs:X.cB [52,57] [3] f.mode=[48,48]) (hgo:f.ord=true→f.read=true∧X.val ks 0 b=f.last) {o:X.Row} (eh:rows.find? (fun r=>decide (X.val ks 0 r.b=X.val ks 0 b))=some o) (cA:X.fP (X.bA ks rows b (some o) (ks.length - 1))=[50,50]):
  Calls Tryz.prog 26 #[.pointer (some ⟨pf,0,none⟩), .slice A b.length cb] w fun e w'=>e= .returned (.string ⟨#[50,50]⟩)∧At w0 p ((pf,av p nm size g ks.length c {f with read:=false})::fs) s w':=by
 have aN:=hX.ks.one;have l7:=aa (fun W (hh:At w0 p ((pf,av p nm size g ks.length c {f with read:=false})::fs) s W)=>fT nm size g c ks A b.length cb W (hO.2 W g (hh.get (af _ bq))) (by omega) (fun k hk=>by have h1:=hX.ks.key k hk;have h2:=hX.ks.size;omega) b rfl);rw[aT]at l7;have hlt:=(ah (h.get ae)).1;have hlt:pf<w.heap.size:=hlt;have bR:=aa (aQ (h.get ae) [52,57] [3] 1 #[.int .u8 3] rfl rfl (by decide) w.heap.size rfl);rw[hs]at bR;have HA:=aa (h.below ((ai _ w).alloc (aj _) (.cells #[.int .u8 3] 32)));have dW:=aa (fun W (hh:At w0 p ((pf,av p nm size g ks.length c {f with read:=false})::fs) s W)=>bD (X.aF ks 0) (.slice A b.length cb) b bL W (gQ _ _ _ cM hh) ((X.aM.1 aT).2 _ (X.aR aN.1)) (by have h1:=(X.aM.1 aT).1;have h2:=hX.ks.size;omega));have iX:(X.aF ks 0).val b=X.val ks 0 b:=rfl;rw[iX]at dW;clear iX;have dK:=aa (fun W (hh:At w0 p ((pf,av p nm size g ks.length c {f with read:=false})::fs) s W)=>hO.2 W g (hh.get (af _ bq)));have cQ:0<ks.length:=by omega
 have tS:=aa cQ;clear cQ;have dA:=aa (fun W=>cy nm size (some ⟨g,0,none⟩) ks.length c 0 0 (X.val ks 0 b) (by decide) (by decide) (by have:=hX.nm;omega) (by have h1:=X.aP aT aN.1;have h2:=hX.lens aN.1;omega) W);have hlk:=hX.con.iQ hX.rows (X.val ks 0 b);rw[eh]at hlk;have cS:=aa (fun W (hh:At w0 p ((pf,av p nm size g ks.length c {f with read:=false})::fs) s W)=>dJ hh (X.bP nm 0 (X.val ks 0 b) 0) (by have h1:=X.aP aT aN.1;have h2:=hX.lens aN.1;have h3:=X.b9 nm 0 (X.val ks 0 b) 0;have h4:=hX.nm;omega) (fun l hl=>by have:=hX.len _ _ hl;omega));rw[hlk]at cS;have hq:=ea (X.val ks 0 b) f.last;generalize vB:(⟨(X.val ks 0 b).toArray⟩:ByteArray)=vb at dW dA hq;generalize xu:(⟨f.last.toArray⟩:ByteArray)=lb at hq;generalize(⟨(X.bP nm 0 (X.val ks 0 b) 0).toArray⟩:ByteArray)=ee at dA cS;have K1:=aa xu;have MA:=aa vB;have xS:Hid (f.ord=false∨f.ord=true∧f.read=true∧(vb.toList==lb.toList)=true):=aa (by
  cases dL:f.ord with
  |false=>exact .inl rfl
  |true=>exact .inr ⟨rfl,(hgo dL).1,by rw[hq];simpa using (hgo dL).2⟩)
 clear vB xu hq hgo hlk;have dL:=(X.a8 eh).1;have sA:=hX.rows.fit o dL;have II:o.b≠[]:=fun e=>by
  have h1:=(X.aM.1 sA).2 _ (X.aR aN.1);have h2:=(hX.lens aN.1).1;have h3:X.lens ks 0=(X.aF ks 0).len:=rfl;rw[e,List.length_nil]at h1;omega
 have oF:=aa II;have jw:=aa (fun W (x:Nat×Obj) bo oo (mA:qz w0 p (x::fs) (.slice (some ⟨bo,oo,none⟩) o.b.length o.b.length) (some o)) (hh:At w0 p ((pf,av p nm size g ks.length c {f with read:=false})::x::fs) s W)=>my (old:=some o) hh ae (af _ (af _ bq)) hO hcap hX (gQ.more (fun y hy=>af _ (af _ hy))) aT (fun o' e=>by injection e with e;subst e;exact sA) ⟨mA.1,mA.2.more cM⟩);have Iz:(⟨(X.fP (X.bA ks rows b (some o) (ks.length - 1))).toArray⟩:ByteArray)=⟨#[50,50]⟩:=by rw[cA]
 rw[Iz]at jw;clear cA Iz dL sA II;clear h hs;go_enter Tryz.func26,Tryz.ntmps26;go_wp2_with fail;refine bR.out.mono ?_;rintro e W1 ⟨rfl,hW1⟩;subst hW1;clear bR;refine aG (fun X=>At w0 p ((pf,av p nm size g ks.length c f)::fs) s X∧Below w.heap.size w X) ⟨HA.out,(ai _ w).alloc (aj _) _⟩ ?_;rintro W ⟨ha,kN⟩;clear HA;have h1:W.heap[pf]? =some (av p nm size g ks.length c f):=ha.get ae;have hz:=az h1;have hc:=fun j=>ag W pf j _ _ _ h1;have HG:=aa (bc (f':={f with read:=false}) ha hf ht (ay (World.grownBy.refl W (some pf)) 11 (.bool false)) (aC h1 11 (.bool false)));clear ha kN hf bq hO ht hX h1 aN hlt;go_wp2_with fail;refine(l7.out _ HG.out).mono ?_;rintro e W3 ⟨rfl,hb⟩;have bH:=aa (HG.out.below hb);clear hb HG l7 hc hz;have hc:=fun j=>ag W3 pf j _ _ _ (bH.out.get ae);have cQ:=tS.out;have bh:=dK.out _ bH.out;have k1:=bh.at_ cQ;have k2:=bh.len cQ;have k3:=bh.dup cQ;rw[Nat.zero_mul]at k1 k2 k3;rw[Nat.zero_add]at k2 k3;have pK:(0:Int)<(ks.length:Nat):=by omega
 clear bh dK;go_wp2_with fail;refine(dW.out _ bH.out).mono ?_;rintro e W4 ⟨rfl,hb⟩;have bG:=aa (bH.out.below hb);clear hb dW bH hc k1 k2 k3;have hc:=fun j=>ag W4 pf j _ _ _ (bG.out.get ae);rw[K1.out]at hc;rcases xS.out with h1|⟨h1,h2,h3⟩
 ·rw[h1]at hc;go_wp2_with fail;clear hc;refine aA 15 (.rd 0 (.rd 1 (.rd 2 (.rd 3 (.rd 4 (.rd 5 (.rd 6 (.rd 7 (.rd 8 (.wr 9 (.wr 10 (.rd 11 (.rd 12 (.rd 13 (.wr 14 .fin))))))))))))))) (fun w'=>At w0 p ((pf,av p nm size g ks.length c {f with read:=false})::fs) s w') (by kernel_rfl) (by kernel_rfl) (fun c a d v w h=>by cases d<;>exact h) (bG.out.below ((ai _ _).drew)) ?_;repeat
   refine aw (v:= ?_) (by rfl) (by rfl) (fun w' hS=> ?_) (fun K hK=> ?_);rotate_left
   ·have hc:=fun j=>ag w' pf j _ _ _ (hS.get (ae:(pf,av p nm size g ks.length c {f with read:=false})∈(pf,av p nm size g ks.length c {f with read:=false})::fs));clear hS;go_simp;try with_reducible rfl
   go_simp;refine hK _ ?_;clear hK K
  refine wpPm_write (by rfl) (fun K hK=> ?_);go_simp;refine(dA.out _).mono ?_;rintro e W6 ⟨rfl,hb⟩;have bK:=aa (bG.out.below (((ai _ _).drew).trans hb));clear hb dA bG;refine hK.out _ _ (fun w'=>At w0 p ((pf,av p nm size g ks.length c {f with read:=false})::fs) s w') (fun _ h=>h) bK.out ?_;clear hK K;refine wpPm_write (by rfl) (fun K hK=> ?_);go_simp;refine(cS.out _ bK.out).mono ?_;rintro e W7 ⟨v,rfl,dB,ed,kS⟩;have dB:cE W7 (· <W6.heap.size) v o.b:=dB;obtain⟨x,h8,xG,mA,bo,oo,hv⟩:=bK.out.old kS dB oF.out;have Ap:pf<W6.heap.size:=bK.out.lt ae;have Q4:=aa (show x.1≠pf by omega);subst hv;have bz:=aa ed;have jd:=aa h8;have rG:=aa mA;clear ed dB kS cS bK h8 xG mA Ap oF;refine hK.out _ _ (fun w'=>At w0 p ((pf,av p nm size g ks.length c {f with read:=false})::fs) s w') (fun _ h=>h) bz.out ?_;clear hK K;repeat
   refine aw (v:= ?_) (by rfl) (by rfl) (fun w' hS=> ?_) (fun K hK=> ?_);rotate_left
   ·have hc:=fun j=>ag w' pf j _ _ _ (hS.get (ae:(pf,av p nm size g ks.length c {f with read:=false})∈(pf,av p nm size g ks.length c {f with read:=false})::fs));clear hS;go_simp;try with_reducible rfl
   go_simp;refine hK _ ?_;clear hK K
  refine wpPm_write (by rfl) (fun K hK=> ?_);go_simp;refine hK.out _ _ (fun w'=>At w0 p ((pf,av p nm size g ks.length c {f with read:=false})::fs) s w') (fun _ h=>h) bz.out ?_;clear hK K;show wpList _ _ _ _ _ _;refine aG (fun Y=>At w0 p ((pf,av p nm size g ks.length c {f with read:=false})::x::fs) s Y) jd.out ?_;intro W9 jY;have gC:=aa jY;clear jY jd bz;go_wp2_with fail;refine(jw.out _ _ _ _ rG.out gC.out).mono ?_;rintro e K2 ⟨rfl,hb⟩;have xH:=aa (gC.out.below hb);clear hb jw gC;go_wp2;go_ret;exact⟨rfl,xH.out.less (fun y hy=>by rcases ak hy with rfl|hy;exact ae;exact af _ (af _ hy))⟩
 ·rw[h1]at hc;go_wp2_with fail;clear hc;refine aA 15 (.rd 0 (.rd 1 (.rd 2 (.rd 3 (.rd 4 (.rd 5 (.rd 6 (.rd 7 (.rd 8 (.wr 9 (.wr 10 (.rd 11 (.rd 12 (.rd 13 (.wr 14 .fin))))))))))))))) (fun w'=>At w0 p ((pf,av p nm size g ks.length c {f with read:=false})::fs) s w') (by kernel_rfl) (by kernel_rfl) (fun c a d v w h=>by cases d<;>exact h) (bG.out.below ((ai _ _).drew)) ?_;repeat
   refine aw (v:= ?_) (by rfl) (by rfl) (fun w' hS=> ?_) (fun K hK=> ?_);rotate_left
   ·have hc:=fun j=>ag w' pf j _ _ _ (hS.get (ae:(pf,av p nm size g ks.length c {f with read:=false})∈(pf,av p nm size g ks.length c {f with read:=false})::fs));clear hS;go_simp;try with_reducible rfl
   go_simp;refine hK _ ?_;clear hK K
  refine wpPm_write (by rfl) (fun K hK=> ?_);go_simp;refine(dA.out _).mono ?_;rintro e W6 ⟨rfl,hb⟩;have bK:=aa (bG.out.below (((ai _ _).drew).trans hb));clear hb dA bG;refine hK.out _ _ (fun w'=>At w0 p ((pf,av p nm size g ks.length c {f with read:=false})::fs) s w') (fun _ h=>h) bK.out ?_;clear hK K;refine wpPm_write (by rfl) (fun K hK=> ?_);go_simp;refine(cS.out _ bK.out).mono ?_;rintro e W7 ⟨v,rfl,dB,ed,kS⟩;have dB:cE W7 (· <W6.heap.size) v o.b:=dB;obtain⟨x,h8,xG,mA,bo,oo,hv⟩:=bK.out.old kS dB oF.out;have Ap:pf<W6.heap.size:=bK.out.lt ae;have Q4:=aa (show x.1≠pf by omega);subst hv;have bz:=aa ed;have jd:=aa h8;have rG:=aa mA;clear ed dB kS cS bK h8 xG mA Ap oF;refine hK.out _ _ (fun w'=>At w0 p ((pf,av p nm size g ks.length c {f with read:=false})::fs) s w') (fun _ h=>h) bz.out ?_;clear hK K;repeat
   refine aw (v:= ?_) (by rfl) (by rfl) (fun w' hS=> ?_) (fun K hK=> ?_);rotate_left
   ·have hc:=fun j=>ag w' pf j _ _ _ (hS.get (ae:(pf,av p nm size g ks.length c {f with read:=false})∈(pf,av p nm size g ks.length c {f with read:=false})::fs));clear hS;go_simp;try with_reducible rfl
   go_simp;refine hK _ ?_;clear hK K
  refine wpPm_write (by rfl) (fun K hK=> ?_);go_simp;refine hK.out _ _ (fun w'=>At w0 p ((pf,av p nm size g ks.length c {f with read:=false})::fs) s w') (fun _ h=>h) bz.out ?_;clear hK K;show wpList _ _ _ _ _ _;refine aG (fun Y=>At w0 p ((pf,av p nm size g ks.length c {f with read:=false})::x::fs) s Y) jd.out ?_;intro W9 jY;have gC:=aa jY;clear jY jd bz;go_wp2_with fail;refine(jw.out _ _ _ _ rG.out gC.out).mono ?_;rintro e K2 ⟨rfl,hb⟩;have xH:=aa (gC.out.below hb);clear hb jw gC;go_wp2;go_ret;exact⟨rfl,xH.out.less (fun y hy=>by rcases ak hy with rfl|hy;exact ae;exact af _ (af _ hy))⟩
theorem K3 (h:At w0 p ((pf,av p nm size g ks.length c f)::fs) s w) (hf:∀x∈fs,x.1≠pf) (bq:(g,ok)∈fs) (hO:bI ok ks) (hcap:ks.length≤c) (ht:J.Two s) (hX:XF nm size ks rows ct s.now) (b:J.B) (A:Option Addr) (cb:Nat) (gQ:Src w0 p fs (.slice A b.length cb) b) (aT:X.bg ks size b=true) (hs:X.cB [52,57] [3] f.mode=[48,48]) (hgo:f.ord=true→f.read=true∧X.val ks 0 b=f.last) {o:X.Row} (eh:rows.find? (fun r=>decide (X.val ks 0 r.b=X.val ks 0 b))=some o) (cA:X.fP (X.bA ks rows b (some o) (ks.length - 1))≠[50,50])
  (l6:X.pg u s.now s) (hu:u≤340) (Ak:X.aS ks size (ct+1) (X.ki ks ct rows b (some o))) (hro:rows.length≤u):
  Calls Tryz.prog 26 #[.pointer (some ⟨pf,0,none⟩), .slice A b.length cb] w fun e w'=>e= .returned (.string ⟨(X.fP (X.bA ks rows b (some o) (ks.length - 1))).toArray⟩)∧∃s1 now,At w0 p ((pf,av p nm size g ks.length c {f with read:=false})::fs) (J.aI s1) w'∧X.Tx u s s1 now∧X.ln nm (X.attr size ks) ks (X.ki ks ct rows b (some o)) (ct+1) now:=by
 have aN:=hX.ks.one;have l7:=aa (fun W (hh:At w0 p ((pf,av p nm size g ks.length c {f with read:=false})::fs) s W)=>fT nm size g c ks A b.length cb W (hO.2 W g (hh.get (af _ bq))) (by omega) (fun k hk=>by have h1:=hX.ks.key k hk;have h2:=hX.ks.size;omega) b rfl);rw[aT]at l7;have hlt:=(ah (h.get ae)).1;have hlt:pf<w.heap.size:=hlt;have bR:=aa (aQ (h.get ae) [52,57] [3] 1 #[.int .u8 3] rfl rfl (by decide) w.heap.size rfl);rw[hs]at bR;have HA:=aa (h.below ((ai _ w).alloc (aj _) (.cells #[.int .u8 3] 32)));have dW:=aa (fun W (hh:At w0 p ((pf,av p nm size g ks.length c {f with read:=false})::fs) s W)=>bD (X.aF ks 0) (.slice A b.length cb) b bL W (gQ _ _ _ cM hh) ((X.aM.1 aT).2 _ (X.aR aN.1)) (by have h1:=(X.aM.1 aT).1;have h2:=hX.ks.size;omega));have iX:(X.aF ks 0).val b=X.val ks 0 b:=rfl;rw[iX]at dW;clear iX;have dK:=aa (fun W (hh:At w0 p ((pf,av p nm size g ks.length c {f with read:=false})::fs) s W)=>hO.2 W g (hh.get (af _ bq)));have cQ:0<ks.length:=by omega
 have tS:=aa cQ;clear cQ;have dA:=aa (fun W=>cy nm size (some ⟨g,0,none⟩) ks.length c 0 0 (X.val ks 0 b) (by decide) (by decide) (by have:=hX.nm;omega) (by have h1:=X.aP aT aN.1;have h2:=hX.lens aN.1;omega) W);have hlk:=hX.con.iQ hX.rows (X.val ks 0 b);rw[eh]at hlk;have cS:=aa (fun W (hh:At w0 p ((pf,av p nm size g ks.length c {f with read:=false})::fs) s W)=>dJ hh (X.bP nm 0 (X.val ks 0 b) 0) (by have h1:=X.aP aT aN.1;have h2:=hX.lens aN.1;have h3:=X.b9 nm 0 (X.val ks 0 b) 0;have h4:=hX.nm;omega) (fun l hl=>by have:=hX.len _ _ hl;omega));rw[hlk]at cS;have hq:=ea (X.val ks 0 b) f.last;generalize vB:(⟨(X.val ks 0 b).toArray⟩:ByteArray)=vb at dW dA hq;generalize xu:(⟨f.last.toArray⟩:ByteArray)=lb at hq;generalize(⟨(X.bP nm 0 (X.val ks 0 b) 0).toArray⟩:ByteArray)=ee at dA cS;have K1:=aa xu;have MA:=aa vB;have xS:Hid (f.ord=false∨f.ord=true∧f.read=true∧(vb.toList==lb.toList)=true):=aa (by
  cases dL:f.ord with
  |false=>exact .inl rfl
  |true=>exact .inr ⟨rfl,(hgo dL).1,by rw[hq];simpa using (hgo dL).2⟩)
 clear vB xu hq hgo hlk;have dL:=(X.a8 eh).1;have sA:=hX.rows.fit o dL;have II:o.b≠[]:=fun e=>by
  have h1:=(X.aM.1 sA).2 _ (X.aR aN.1);have h2:=(hX.lens aN.1).1;have h3:X.lens ks 0=(X.aF ks 0).len:=rfl;rw[e,List.length_nil]at h1;omega
 have oF:=aa II;have jw:=aa (fun W (x:Nat×Obj) bo oo (mA:qz w0 p (x::fs) (.slice (some ⟨bo,oo,none⟩) o.b.length o.b.length) (some o)) (hh:At w0 p ((pf,av p nm size g ks.length c {f with read:=false})::x::fs) s W)=>my (old:=some o) hh ae (af _ (af _ bq)) hO hcap hX (gQ.more (fun y hy=>af _ (af _ hy))) aT (fun o' e=>by injection e with e;subst e;exact sA) ⟨mA.1,mA.2.more cM⟩);have hne:=rV cA;have sf:=aa (fun W (x:Nat×Obj) bo oo (mA:qz w0 p (x::fs) (.slice (some ⟨bo,oo,none⟩) o.b.length o.b.length) (some o)) (YO:x.1≠pf) (hh:At w0 p ((pf,av p nm size g ks.length c {f with read:=false})::x::fs) s W)=>zA hh (fun y hy=>by rcases ak hy with rfl|hy;exact YO;exact hf y hy) (af _ bq) hO hcap A cb _ _ _ l6 hu hX (gQ.more cM) aT eh mA Ak hro);generalize(⟨(X.fP (X.bA ks rows b (some o) (ks.length - 1))).toArray⟩:ByteArray)=cs at jw hne⊢;clear cA dL sA II;clear h hs;go_enter Tryz.func26,Tryz.ntmps26;go_wp2_with fail;refine bR.out.mono ?_;rintro e W1 ⟨rfl,hW1⟩;subst hW1;clear bR;refine aG (fun X=>At w0 p ((pf,av p nm size g ks.length c f)::fs) s X∧Below w.heap.size w X) ⟨HA.out,(ai _ w).alloc (aj _) _⟩ ?_;rintro W ⟨ha,kN⟩;clear HA;have h1:W.heap[pf]? =some (av p nm size g ks.length c f):=ha.get ae;have hz:=az h1;have hc:=fun j=>ag W pf j _ _ _ h1;have HG:=aa (bc (f':={f with read:=false}) ha hf ht (ay (World.grownBy.refl W (some pf)) 11 (.bool false)) (aC h1 11 (.bool false)));clear ha kN hf bq hO ht hX h1 aN hlt;go_wp2_with fail;refine(l7.out _ HG.out).mono ?_;rintro e W3 ⟨rfl,hb⟩;have bH:=aa (HG.out.below hb);clear hb HG l7 hc hz;have hc:=fun j=>ag W3 pf j _ _ _ (bH.out.get ae);have cQ:=tS.out;have bh:=dK.out _ bH.out;have k1:=bh.at_ cQ;have k2:=bh.len cQ;have k3:=bh.dup cQ;rw[Nat.zero_mul]at k1 k2 k3;rw[Nat.zero_add]at k2 k3;have pK:(0:Int)<(ks.length:Nat):=by omega
 clear bh dK;go_wp2_with fail;refine(dW.out _ bH.out).mono ?_;rintro e W4 ⟨rfl,hb⟩;have bG:=aa (bH.out.below hb);clear hb dW bH hc k1 k2 k3;have hc:=fun j=>ag W4 pf j _ _ _ (bG.out.get ae);rw[K1.out]at hc;rcases xS.out with h1|⟨h1,h2,h3⟩
 ·rw[h1]at hc;go_wp2_with fail;clear hc;refine aA 15 (.rd 0 (.rd 1 (.rd 2 (.rd 3 (.rd 4 (.rd 5 (.rd 6 (.rd 7 (.rd 8 (.wr 9 (.wr 10 (.rd 11 (.rd 12 (.rd 13 (.wr 14 .fin))))))))))))))) (fun w'=>At w0 p ((pf,av p nm size g ks.length c {f with read:=false})::fs) s w') (by kernel_rfl) (by kernel_rfl) (fun c a d v w h=>by cases d<;>exact h) (bG.out.below ((ai _ _).drew)) ?_;repeat
   refine aw (v:= ?_) (by rfl) (by rfl) (fun w' hS=> ?_) (fun K hK=> ?_);rotate_left
   ·have hc:=fun j=>ag w' pf j _ _ _ (hS.get (ae:(pf,av p nm size g ks.length c {f with read:=false})∈(pf,av p nm size g ks.length c {f with read:=false})::fs));clear hS;go_simp;try with_reducible rfl
   go_simp;refine hK _ ?_;clear hK K
  refine wpPm_write (by rfl) (fun K hK=> ?_);go_simp;refine(dA.out _).mono ?_;rintro e W6 ⟨rfl,hb⟩;have bK:=aa (bG.out.below (((ai _ _).drew).trans hb));clear hb dA bG;refine hK.out _ _ (fun w'=>At w0 p ((pf,av p nm size g ks.length c {f with read:=false})::fs) s w') (fun _ h=>h) bK.out ?_;clear hK K;refine wpPm_write (by rfl) (fun K hK=> ?_);go_simp;refine(cS.out _ bK.out).mono ?_;rintro e W7 ⟨v,rfl,dB,ed,kS⟩;have dB:cE W7 (· <W6.heap.size) v o.b:=dB;obtain⟨x,h8,xG,mA,bo,oo,hv⟩:=bK.out.old kS dB oF.out;have Ap:pf<W6.heap.size:=bK.out.lt ae;have Q4:=aa (show x.1≠pf by omega);subst hv;have bz:=aa ed;have jd:=aa h8;have rG:=aa mA;clear ed dB kS cS bK h8 xG mA Ap oF;refine hK.out _ _ (fun w'=>At w0 p ((pf,av p nm size g ks.length c {f with read:=false})::fs) s w') (fun _ h=>h) bz.out ?_;clear hK K;repeat
   refine aw (v:= ?_) (by rfl) (by rfl) (fun w' hS=> ?_) (fun K hK=> ?_);rotate_left
   ·have hc:=fun j=>ag w' pf j _ _ _ (hS.get (ae:(pf,av p nm size g ks.length c {f with read:=false})∈(pf,av p nm size g ks.length c {f with read:=false})::fs));clear hS;go_simp;try with_reducible rfl
   go_simp;refine hK _ ?_;clear hK K
  refine wpPm_write (by rfl) (fun K hK=> ?_);go_simp;refine hK.out _ _ (fun w'=>At w0 p ((pf,av p nm size g ks.length c {f with read:=false})::fs) s w') (fun _ h=>h) bz.out ?_;clear hK K;show wpList _ _ _ _ _ _;refine aG (fun Y=>At w0 p ((pf,av p nm size g ks.length c {f with read:=false})::x::fs) s Y) jd.out ?_;intro W9 jY;have gC:=aa jY;clear jY jd bz;go_wp2_with fail;refine(jw.out _ _ _ _ rG.out gC.out).mono ?_;rintro e K2 ⟨rfl,hb⟩;have xH:=aa (gC.out.below hb);clear hb jw gC;go_wp2_with fail;refine(sf.out _ _ _ _ rG.out Q4.out xH.out).mono ?_;rintro e YP ⟨rfl,s1,now,h8,mL,hcon⟩;have pL:=aa (h8.less (fun y hy=>by rcases ak hy with rfl|hy;exact ae;exact af _ (af _ hy)));have rC:=aa mL;have r7:=aa hcon;clear h8 mL hcon sf xH;go_wp2;go_ret;exact⟨rfl,_,_,pL.out,rC.out,r7.out⟩
 ·rw[h1]at hc;go_wp2_with fail;clear hc;refine aA 15 (.rd 0 (.rd 1 (.rd 2 (.rd 3 (.rd 4 (.rd 5 (.rd 6 (.rd 7 (.rd 8 (.wr 9 (.wr 10 (.rd 11 (.rd 12 (.rd 13 (.wr 14 .fin))))))))))))))) (fun w'=>At w0 p ((pf,av p nm size g ks.length c {f with read:=false})::fs) s w') (by kernel_rfl) (by kernel_rfl) (fun c a d v w h=>by cases d<;>exact h) (bG.out.below ((ai _ _).drew)) ?_;repeat
   refine aw (v:= ?_) (by rfl) (by rfl) (fun w' hS=> ?_) (fun K hK=> ?_);rotate_left
   ·have hc:=fun j=>ag w' pf j _ _ _ (hS.get (ae:(pf,av p nm size g ks.length c {f with read:=false})∈(pf,av p nm size g ks.length c {f with read:=false})::fs));clear hS;go_simp;try with_reducible rfl
   go_simp;refine hK _ ?_;clear hK K
  refine wpPm_write (by rfl) (fun K hK=> ?_);go_simp;refine(dA.out _).mono ?_;rintro e W6 ⟨rfl,hb⟩;have bK:=aa (bG.out.below (((ai _ _).drew).trans hb));clear hb dA bG;refine hK.out _ _ (fun w'=>At w0 p ((pf,av p nm size g ks.length c {f with read:=false})::fs) s w') (fun _ h=>h) bK.out ?_;clear hK K;refine wpPm_write (by rfl) (fun K hK=> ?_);go_simp;refine(cS.out _ bK.out).mono ?_;rintro e W7 ⟨v,rfl,dB,ed,kS⟩;have dB:cE W7 (· <W6.heap.size) v o.b:=dB;obtain⟨x,h8,xG,mA,bo,oo,hv⟩:=bK.out.old kS dB oF.out;have Ap:pf<W6.heap.size:=bK.out.lt ae;have Q4:=aa (show x.1≠pf by omega);subst hv;have bz:=aa ed;have jd:=aa h8;have rG:=aa mA;clear ed dB kS cS bK h8 xG mA Ap oF;refine hK.out _ _ (fun w'=>At w0 p ((pf,av p nm size g ks.length c {f with read:=false})::fs) s w') (fun _ h=>h) bz.out ?_;clear hK K;repeat
   refine aw (v:= ?_) (by rfl) (by rfl) (fun w' hS=> ?_) (fun K hK=> ?_);rotate_left
   ·have hc:=fun j=>ag w' pf j _ _ _ (hS.get (ae:(pf,av p nm size g ks.length c {f with read:=false})∈(pf,av p nm size g ks.length c {f with read:=false})::fs));clear hS;go_simp;try with_reducible rfl
   go_simp;refine hK _ ?_;clear hK K
  refine wpPm_write (by rfl) (fun K hK=> ?_);go_simp;refine hK.out _ _ (fun w'=>At w0 p ((pf,av p nm size g ks.length c {f with read:=false})::fs) s w') (fun _ h=>h) bz.out ?_;clear hK K;show wpList _ _ _ _ _ _;refine aG (fun Y=>At w0 p ((pf,av p nm size g ks.length c {f with read:=false})::x::fs) s Y) jd.out ?_;intro W9 jY;have gC:=aa jY;clear jY jd bz;go_wp2_with fail;refine(jw.out _ _ _ _ rG.out gC.out).mono ?_;rintro e K2 ⟨rfl,hb⟩;have xH:=aa (gC.out.below hb);clear hb jw gC;go_wp2_with fail;refine(sf.out _ _ _ _ rG.out Q4.out xH.out).mono ?_;rintro e YP ⟨rfl,s1,now,h8,mL,hcon⟩;have pL:=aa (h8.less (fun y hy=>by rcases ak hy with rfl|hy;exact ae;exact af _ (af _ hy)));have rC:=aa mL;have r7:=aa hcon;clear h8 mL hcon sf xH;go_wp2;go_ret;exact⟨rfl,_,_,pL.out,rC.out,r7.out⟩
end
namespace X
section
variable {u : Nat} {m : M}
theorem jA.Q5 (h:jA u m):jA u m.dx:=⟨h.ks,h.rows,h.none,h.many,h.time,h.key,(fun e=>by cases e),h.at_,h.mode⟩
theorem K4 (h:jA u m) (k:Int) (b:B):jA (u+1) (m.get k b).1:=by
 unfold M.get;split
 ·exact h.mono (by omega)
 ·split
  ·exact h.dx
  ·split
   ·exact h.dx
   ·split
    ·rename_i r hr
     have hk:k.toNat<m.ks.length:=(by omega);exact(h.Q5.keyed rfl hk).take (M.ui hr)
    ·exact h.dx
end
structure FM (nm:B) (m:M) (f:Fv):Prop where
 mode:f.mode=m.mode
 ord:f.ord=m.ord
 key:f.key=m.key
 lost:f.lost=m.lost
 last:f.last=m.last
 read:f.read=m.read
 written:f.written=m.written
 pos:m.mode≠0→m.lost=false→f.at_=bP nm m.key m.value m.at_∧f.same=m.same
 rl:m.read=true→m.last.length≤160
structure Kp (nm:B) (u:Nat) (m:M) (L:List (List (B×B))) (s:J.St):Prop where
 mok:jA u m
 sto:pg u s.now s
 con:m.con nm s.now
 hist:J.mQ True s 0 L (List.range L.length)
 len:L.length=s.writes.length+1
section
variable {nm : B} {u : Nat} {m m' : M} {L : List (List (B × B))} {s s1 : J.St} {f : Fv}
theorem FM.dx (h:FM nm m f):FM nm m.dx {f with at_:=[],same:=false,lost:=true,read:=false}:=
 ⟨h.mode,h.ord,h.key,rfl,h.last,rfl,h.written,(fun _ e=>by cases e),fun e=>by cases e⟩
theorem FM.aO (h:FM nm m f):FM nm m.aO {f with read:=false}:=
 ⟨h.mode,h.ord,h.key,h.lost,h.last,rfl,h.written,h.pos,fun e=>by cases e⟩
theorem jA.Q6 (h:jA u m) {r:Row} (hr:r∈m.rows):(val m.ks 0 r.b).length≤160:=by
 rw[aP (h.rows.fit r hr) h.ks.one.1];exact(h.ks.key _ (aR h.ks.one.1)).2.1
theorem FM.take (h:FM nm m f) (hm:jA u m) (r:Row) (hr:r∈m.rows):FM nm (m.take r) {f with at_:=aJ nm m.ks f.key r,same:=false,lost:=false,last:=val m.ks 0 r.b,read:=true}:=
 ⟨h.mode,h.ord,h.key,rfl,rfl,rfl,h.written,(fun _ _=>⟨by rw[h.key];rfl,rfl⟩),fun _=>hm.Q6 hr⟩
theorem N6 (nm:B) {ks:List Ky} {size:Nat} (h:fQ ks size):Kp nm 0 (M.new ks size) [[]] J.new:=
 ⟨J1 h,Kh,rfl,J.Dy (J.CN True) rfl,rfl⟩
theorem Kp.same (h:Kp nm u m L s) (hm:jA (u+1) m') (hs:pg u s.now s) (he:m'.con nm s.now):Kp nm (u+1) m' L s:=
 ⟨hm,hs.mono (Nat.le_succ u),he,h.hist,h.len⟩
theorem Kp.tx {now:List (B×B)} (h:Kp nm u m L s) (hm:jA (u+1) m') (ht:Tx u s s1 now) (hc:m'.con nm now):Kp nm (u+1) m' (L++[now]) (J.aI s1):=by
 have hn:=ht.sto.now;refine⟨hm,by rw[hn];exact ht.sto,by rw[hn];exact hc, ?_,by rw[List.length_append,h.len,ht.wr];rfl⟩;have:=ht.hist _ _ _ h.hist;rw[List.length_append,List.length_singleton,List.range_succ,h.len];rw[h.len]at this;exact this
theorem Kp.last (h:Kp nm u m L s):L[s.writes.length]? =some s.now:=by
 have h1:=h.hist.last;rw[List.length_range,h.len,Nat.add_sub_cancel]at h1;rw[h1];unfold J.St.com;rw[h.sto.opn];rfl
theorem Kp.idle (h:Kp nm u m L s):Kp nm u m L (J.cC (J.cT s)):=by
 have hs:=h.sto;have hi:=(J.ye (J.vH hs.inv hs.opn).1 rfl).1;refine⟨h.mok,⟨rfl,hs.ar,hs.now,hs.base,hi,hs.wr,hs.h0,hs.h1,hs.sum,hs.log,hs.a0,hs.cm,hs.cu,hs.many⟩,h.con,h.hist.same rfl rfl rfl ?_,h.len⟩;unfold J.St.com;rw[hs.opn];rfl
theorem Kp.cont (h:Kp nm u m L s) (ht:m.there=true):ln nm (attr m.size m.ks) m.ks m.rows m.time s.now:=by
 have:=h.con;unfold M.con at this
 rwa [ht]at this
theorem Kp.xf (h:Kp nm u m L s) (hu:u≤340) (lf:nm.length≤100∧1≤nm.length) (ht:m.there=true):XF nm m.size m.ks m.rows m.time s.now:=
 ⟨h.cont ht,h.mok.rows,h.mok.ks,by have:=h.mok.time;omega,lf.2,lf.1,by have:=h.sto.many;omega,fun _ _ hl=>h.sto.len hl⟩
theorem zM {wr:B} {l:List Nat} {md:Nat} (h:cB wr l md=good):md≠0:=fun e=>by
 unfold cB at h;rw[if_pos e]at h;exact absurd h (by decide)
theorem uJ (ht:m'.there=true) {now:List (B×B)} (h:ln nm (attr m'.size m'.ks) m'.ks m'.rows m'.time now):m'.con nm now:=by
 unfold M.con;rw[ht];exact h
theorem IJ {m m':M} (e1:m'.ks=m.ks) (e2:m'.size=m.size) (e3:m'.there=m.there) (e4:m'.rows=m.rows) (e5:m'.time=m.time) (now:List (B×B)) (h:m.con nm now):m'.con nm now:=by
 unfold M.con at h⊢;rw[e1,e2,e3,e4,e5];exact h
end
end X
structure KI (w0:World) (p pf:Nat) (nm:J.B) (u:Nat) (fs:List (Nat×Obj)) (m:X.M) (L:List (List (J.B×J.B))) (s:J.St) (f:Fv) (g c:Nat) (ok:Obj) (w:World):Prop where
 at_:At w0 p ((pf,av p nm m.size g m.ks.length c f)::(g,ok)::fs) s w
 kp:X.Kp nm u m L s
 fm:X.FM nm m f
 ko:bI ok m.ks
 cap:m.ks.length≤c
 ne:∀x∈(g,ok)::fs,x.1≠pf
 neg:∀x∈fs,x.1≠g
 nm_:nm.length≤100∧1≤nm.length
def IK (w0:World) (p pf:Nat) (nm:J.B) (u:Nat) (fs:List (Nat×Obj)) (m:X.M) (L:List (List (J.B×J.B))) (w:World):Prop:=∃s f g c ok,KI w0 p pf nm u fs m L s f g c ok w
def Cq (w0:World) (p pf:Nat) (nm:J.B) (u:Nat) (fs:List (Nat×Obj)) (m':X.M) (L:List (List (J.B×J.B))) (w':World):Prop:=∃L',(L'=L∨∃c,L'=L++[c])∧IK w0 p pf nm (u+1) fs m' L' w'
section
variable {w0 : World} {p pf g c : Nat} {nm : J.B} {u : Nat} {fs : List (Nat × Obj)} {m m' : X.M} {L : List (List (J.B × J.B))} {w w' : World} {s s1 : J.St} {f f' : Fv} {ok : Obj}
theorem KI.same (h:KI w0 p pf nm u fs m L s f g c ok w) (ha:At w0 p ((pf,av p nm m.size g m.ks.length c f')::(g,ok)::fs) s w') (hm:X.jA (u+1) m') (hf:X.FM nm m' f') (e1:m'.ks=m.ks) (e2:m'.size=m.size) (e3:m'.there=m.there) (e4:m'.rows=m.rows) (e5:m'.time=m.time):Cq w0 p pf nm u fs m' L w':=
 ⟨L, .inl rfl,s,f',g,c,ok,by rw[←e1,←e2]at ha;exact ha,h.kp.same hm h.kp.sto (X.IJ e1 e2 e3 e4 e5 _ h.kp.con),hf,by rw[e1];exact h.ko,by rw[e1];exact h.cap,h.ne,h.neg,h.nm_⟩
theorem KI.tx {now:List (J.B×J.B)} (h:KI w0 p pf nm u fs m L s f g c ok w) (hk:X.Kp nm u m L s1) {s2:J.St} (ha:At w0 p ((pf,av p nm m.size g m.ks.length c f')::(g,ok)::fs) (J.aI s2) w') (hm:X.jA (u+1) m') (hf:X.FM nm m' f') (e1:m'.ks=m.ks) (e2:m'.size=m.size) (ht:X.Tx u s1 s2 now) (hc:m'.con nm now):Cq w0 p pf nm u fs m' L w':=
 ⟨_, .inr ⟨now,rfl⟩,_,f',g,c,ok,by rw[←e1,←e2]at ha;exact ha,hk.tx hm ht hc,hf,by rw[e1];exact h.ko,by rw[e1];exact h.cap,h.ne,h.neg,h.nm_⟩
theorem KI.src (h:KI w0 p pf nm u fs m L s f g c ok w) {v:Value} {b:J.B} (hv:Src w0 p fs v b):∃A cb,v= .slice A b.length cb∧Src w0 p ((g,ok)::fs) (.slice A b.length cb) b:=by
 obtain⟨A,cb,e,_⟩:=(hv _ _ _ (fun x hx=>af _ (af _ hx)) h.at_).by
 subst e;exact⟨A,cb,rfl,hv.more (fun x hx=>af _ hx)⟩
theorem KI.row (h:KI w0 p pf nm u fs m L s f g c ok w):w.heap[pf]? =some (av p nm m.size g m.ks.length c f):=h.at_.get ae
theorem IL (h:IK w0 p pf nm u fs m L w):
  Calls Tryz.prog 17 #[.pointer (some ⟨pf,0,none⟩)] w fun e w'=>e= .returned (.string ⟨m.close.2.toArray⟩)∧Cq w0 p pf nm u fs m.close.1 L w':=by
 obtain⟨s,f,g,c,ok,h⟩:=h;have hm:=X.G7 h.kp.mok;revert hm;unfold X.M.close;by_cases h1:m.mode=0
 ·rw[if_pos h1];intro hm;refine(BG h.row (h.fm.mode.trans h1)).mono ?_;rintro e w1 ⟨rfl,rfl⟩;exact⟨rfl,h.same h.at_ hm h.fm rfl rfl rfl rfl rfl⟩
 ·rw[if_neg h1];intro hm;refine(BH h.row (by rw[h.fm.mode];omega)).mono ?_;rintro e w1 ⟨rfl,hg,hr⟩;exact⟨rfl,h.same (m':={m with mode:=0}) (bc h.at_ h.ne h.kp.sto.two hg hr) hm ⟨rfl,h.fm.ord,h.fm.key,h.fm.lost,h.fm.last,h.fm.read,h.fm.written,(fun e=>absurd rfl e),h.fm.rl⟩ rfl rfl rfl rfl rfl⟩
theorem K5 (h:IK w0 p pf nm u fs m L w) (hu:u≤340):
  Calls Tryz.prog 20 #[.pointer (some ⟨pf,0,none⟩)] w fun e w'=>∃v,e= .returned (.tuple #[v, .string ⟨m.next.2.2.toArray⟩])∧cE w' (· <w.heap.size) v (m.next.2.1.getD [])∧Cq w0 p pf nm u fs m.next.1 L w':=by
 obtain⟨s,f,g,c,ok,h⟩:=h;have hm:=X.C2 h.kp.mok;have kq:=h.fm.mode;revert hm;unfold X.M.next;by_cases hs:X.cB [52,55] [1,3] m.mode=X.good
 ·rw[if_neg (Decidable.not_not.2 hs)];have hs':X.cB [52,55] [1,3] f.mode=[48,48]:=(by rw[kq];exact hs);have wD:=X.gB h.kp.mok (Decidable.not_not.2 hs);have mg:=h.kp.xf hu h.nm_ wD;by_cases hl:m.lost=true
  ·rw[if_pos hl];intro hm;refine(BK h.at_ h.ne ae h.ko h.kp.sto.two mg hs' (h.fm.lost.trans hl)).mono ?_;rintro e w1 ⟨rfl,h1⟩;exact⟨_,rfl,cE.iF,h.same (m':={m with read:=false}) h1 hm h.fm.aO rfl rfl rfl rfl rfl⟩
  ·rw[if_neg hl];have hl:m.lost=false:=Bool.not_eq_true _▸hl;obtain⟨p1,p2⟩:=h.fm.pos (X.zM hs) hl;have fR:f.key<m.ks.length:=(by rw[h.fm.key];exact h.kp.mok.key);have Cc:afterOf s.now ⟨(X.pre nm f.key).toArray⟩ f.at_ f.same=m.at.map (X.aJ nm m.ks f.key):=by
    rw[p1,p2,h.fm.key];exact mg.con.after mg.ks mg.rows (by have:=mg.ct;omega) h.kp.mok.key (by have:=h.kp.mok.at_;omega) (h.kp.mok.pos hl) m.same
   cases hr:m.at with
   |some r=>
    rw[hr]at Cc;intro hm;refine(BM h.at_ h.ne ae h.ko h.kp.sto.two mg hs' (h.fm.lost.trans hl) fR r (X.M.at_mem hr) Cc).mono ?_;rintro e w1 ⟨v,rfl,h1,h2⟩;refine⟨v, ?_,h1,h.same (m':=m.take r) h2 hm (h.fm.take h.kp.mok r (X.M.at_mem hr)) rfl rfl rfl rfl rfl⟩;rw[h.fm.key];rfl
   |none=>
    rw[hr]at Cc;intro hm;refine(BL h.at_ h.ne ae h.ko h.kp.sto.two mg hs' (h.fm.lost.trans hl) fR Cc).mono ?_;rintro e w1 ⟨rfl,h1⟩;exact⟨_,rfl,cE.iF,h.same (m':=m.dx) h1 hm h.fm.dx rfl rfl rfl rfl rfl⟩
 ·rw[if_pos hs];intro hm;refine(BJ h.row (by rw[kq];exact hs)).mono ?_;rintro e w1 ⟨rfl,h1⟩;exact⟨_,by rw[kq],cE.iF,h.same (h.at_.below h1) hm h.fm rfl rfl rfl rfl rfl⟩
theorem K6 (h:IK w0 p pf nm u fs m L w) (hu:u≤340) (k:Int) (v:Value) (b:J.B) (hv:Src w0 p fs v b) (hbl:b.length≤1000000):
  Calls Tryz.prog 25 #[.pointer (some ⟨pf,0,none⟩), .int .i64 k,v] w fun e w'=>∃v,e= .returned (.tuple #[v, .string ⟨(m.get k b).2.2.toArray⟩])∧cE w' (· <w.heap.size) v ((m.get k b).2.1.getD [])∧Cq w0 p pf nm u fs (m.get k b).1 L w':=by
 obtain⟨s,f,g,c,ok,h⟩:=h;obtain⟨A,cb,rfl,xX⟩:=h.src hv;have hm:=X.K4 h.kp.mok k b;have kq:=h.fm.mode;revert hm;unfold X.M.get;by_cases hs:X.cB [52,55] [1,3] m.mode=X.good
 ·rw[if_neg (Decidable.not_not.2 hs)];have hs':X.cB [52,55] [1,3] f.mode=[48,48]:=(by rw[kq];exact hs);have wD:=X.gB h.kp.mok (Decidable.not_not.2 hs);have mg:=h.kp.xf hu h.nm_ wD;by_cases hk:k<0∨m.ks.length≤k
  ·rw[if_pos hk];intro hm;refine(Ej h.at_ h.ne ae h.ko h.kp.sto.two mg hs' k hk A cb b).mono ?_;rintro e w1 ⟨rfl,h1⟩;exact⟨_,rfl,cE.iF,h.same (m':=m.dx) h1 hm h.fm.dx rfl rfl rfl rfl rfl⟩
  ·rw[if_neg hk];obtain⟨i,rfl⟩:∃i:Nat,k=i:=⟨k.toNat,by omega⟩;have hi:i<m.ks.length:=(by omega);rw[Int.toNat_natCast];by_cases hb:b.length<(X.aF m.ks i).at_+(X.aF m.ks i).len
   ·rw[if_pos hb];intro hm;refine(ze h.at_ h.ne ae h.ko h.kp.sto.two mg hs' i hi A cb b hb).mono ?_;rintro e w1 ⟨rfl,h1⟩;exact⟨_,rfl,cE.iF,h.same (m':=m.dx) h1 hm h.fm.dx rfl rfl rfl rfl rfl⟩
   ·rw[if_neg hb];cases hr:m.AE i (X.val m.ks i b)with
    |some r=>
     intro hm;refine(BP h.at_ h.ne ae h.ko h.kp.sto.two mg hs' i hi A cb b xX (by omega) hbl r hr).mono ?_;rintro e w1 ⟨v,rfl,h1,h2⟩;exact⟨v,rfl,h1,h.same (m':=(m.dx.keyed i).take r) h2 hm ⟨kq,h.fm.ord,rfl,rfl,rfl,rfl,h.fm.written,(fun _ _=>⟨rfl,rfl⟩),fun _=>h.kp.mok.Q6 (X.M.ui hr)⟩ rfl rfl rfl rfl rfl⟩
    |none=>
     intro hm;refine(BO h.at_ h.ne ae h.ko h.kp.sto.two mg hs' i hi A cb b xX (by omega) hbl hr).mono ?_;rintro e w1 ⟨rfl,h1⟩;exact⟨_,rfl,cE.iF,h.same (m':=m.dx) h1 hm h.fm.dx rfl rfl rfl rfl rfl⟩
 ·rw[if_pos hs];intro hm;refine(BN h.row (by rw[kq];exact hs) k A b.length cb).mono ?_;rintro e w1 ⟨rfl,h1⟩;exact⟨_,by rw[kq],cE.iF,h.same (h.at_.below h1) hm h.fm rfl rfl rfl rfl rfl⟩
theorem IM (h:IK w0 p pf nm u fs m L w) (hu:u≤340) (k:Int) (r:Nat) (hr:r≤5) (v:Value) (b:J.B) (hv:Src w0 p fs v b):
  Calls Tryz.prog 19 #[.pointer (some ⟨pf,0,none⟩), .int .i64 k, .int .u8 (r:Nat),v] w fun e w'=>e= .returned (.string ⟨(m.start k r b).2.toArray⟩)∧Cq w0 p pf nm u fs (m.start k r b).1 L w':=by
 obtain⟨s,f,g,c,ok,h⟩:=h;obtain⟨A,cb,rfl,xX⟩:=h.src hv;have hm:=X.G9 h.kp.mok k r b;have kq:=h.fm.mode;revert hm;unfold X.M.start;by_cases hs:X.cB [52,55] [1,3] m.mode=X.good
 ·rw[if_neg (Decidable.not_not.2 hs)];have hs':X.cB [52,55] [1,3] f.mode=[48,48]:=(by rw[kq];exact hs);have wD:=X.gB h.kp.mok (Decidable.not_not.2 hs);have mg:=h.kp.xf hu h.nm_ wD;by_cases hk:k<0∨m.ks.length≤k∨b.length=0∨(X.aF m.ks k.toNat).len<b.length
  ·rw[if_pos hk];intro hm;refine(BZ h.at_ h.ne ae h.ko h.kp.sto.two mg hs' k r A cb b hk).mono ?_;rintro e w1 ⟨rfl,h1⟩;exact⟨rfl,h.same (m':=m.dx) h1 hm h.fm.dx rfl rfl rfl rfl rfl⟩
  ·rw[if_neg hk];obtain⟨i,rfl⟩:∃i:Nat,k=i:=⟨k.toNat,by omega⟩;rw[Int.toNat_natCast]at hk⊢;have hgo:=Ew h.at_ h.ne ae h.ko h.kp.sto.two mg hs' i r hr A cb b xX (by omega) (by omega) (by omega);rw[show pF m.ks i m.rows r b=m.place i r b from rfl]at hgo;cases hx:m.place i r b with
   |none=>
    rw[hx]at hgo;intro hm;refine hgo.mono ?_;rintro e w1 ⟨rfl,h1⟩;exact⟨rfl,h.same (m':=m.dx) h1 hm h.fm.dx rfl rfl rfl rfl rfl⟩
   |some x=>
    rw[hx]at hgo;intro hm;refine hgo.mono ?_;rintro e w1 ⟨rfl,h1⟩;exact⟨rfl,h.same h1 hm ⟨kq,h.fm.ord,rfl,rfl,h.fm.last,rfl,h.fm.written,(fun _ _=>⟨rfl,rfl⟩),fun e=>by cases e⟩ rfl rfl rfl rfl rfl⟩
 ·rw[if_pos hs];intro hm;refine(zk h.row (by rw[kq];exact hs) k r A b.length cb).mono ?_;rintro e w1 ⟨rfl,h1⟩;exact⟨by rw[kq],h.same (h.at_.below h1) hm h.fm rfl rfl rfl rfl rfl⟩
theorem IP (h:IK w0 p pf nm u fs m L w) (hu:u≤340) (v:Value) (b:J.B) (hv:Src w0 p fs v b):
  Calls Tryz.prog 15 #[.pointer (some ⟨pf,0,none⟩),v] w fun e w'=>e= .returned (.string ⟨(m.write b).2.toArray⟩)∧Cq w0 p pf nm u fs (m.write b).1 L w':=by
 obtain⟨s,f,g,c,ok,h⟩:=h;obtain⟨A,cb,rfl,xX⟩:=h.src hv;have hm:=X.G8 h.kp.mok b;have kq:=h.fm.mode;revert hm;unfold X.M.write;by_cases hs:X.cB [52,56] [2,4,3] m.mode=X.good
 ·rw[if_neg (Decidable.not_not.2 hs)];have hs':X.cB [52,56] [2,4,3] f.mode=[48,48]:=(by rw[kq];exact hs);have wD:=X.gB h.kp.mok (Decidable.not_not.2 hs);have mg:=h.kp.xf hu h.nm_ wD;by_cases uV:X.bg m.ks m.size b=false
  ·rw[if_pos uV];intro hm;refine(zD h.at_ h.ne ae h.ko h.kp.sto.two mg b A cb hs' uV).mono ?_;rintro e w1 ⟨rfl,h1⟩;exact⟨rfl,h.same (m':=m.aO) h1 hm h.fm.aO rfl rfl rfl rfl rfl⟩
  ·rw[if_neg uV];have uV:X.bg m.ks m.size b=true:=Bool.not_eq_false _▸uV;by_cases dL:m.ord=true∧m.mode≠3∧¬m.written<X.val m.ks 0 b
   ·rw[if_pos dL];intro hm;refine(xC h.at_ h.ne ae h.ko h.kp.sto.two mg b A cb xX uV hs' (h.fm.ord.trans dL.1) (by rw[kq];exact dL.2.1) (by rw[h.fm.written];exact dL.2.2)).mono ?_;rintro e w1 ⟨rfl,h1⟩;exact⟨rfl,h.same (m':=m.aO) h1 hm h.fm.aO rfl rfl rfl rfl rfl⟩
   ·rw[if_neg dL];have hgo:f.ord=true→f.mode≠3→f.written<X.val m.ks 0 b:=fun a b'=>by
     rw[h.fm.ord]at a;rw[kq]at b';rw[h.fm.written];exact Decidable.byContradiction fun hn=>dL ⟨a,b',hn⟩
    cases eh:m.find (X.val m.ks 0 b)with
    |some o=>
     rw[if_pos (.inl rfl)];intro hm;refine(xD h.at_ h.ne ae h.ko h.cap h.kp.sto.two mg b A cb xX uV hs' hgo eh).mono ?_;rintro e w1 ⟨rfl,h1⟩;exact⟨rfl,h.same (m':=m.aO) h1 hm h.fm.aO rfl rfl rfl rfl rfl⟩
    |none=>
     have hce:=X.zB m b none;by_cases cA:m.dZ b none=[50,50]
     ·rw[if_pos (.inr cA)];intro hm;refine(xE h.at_ h.ne ae h.ko h.cap h.kp.sto.two mg b A cb xX uV hs' hgo eh (hce.trans cA)).mono ?_;rintro e w1 ⟨rfl,h1⟩;exact⟨rfl,h.same (m':=m.aO) h1 hm h.fm.aO rfl rfl rfl rfl rfl⟩
     ·rw[if_neg (by rintro(h1|h1);cases h1;exact cA h1)];intro hm;have Ak:=X.uh h.kp.mok.rows uV eh (X.pD cA) h.kp.mok.ks.one.1;refine(EW h.at_ h.ne ae h.ko h.cap h.kp.sto.two mg b A cb xX uV hs' hgo eh (by rw[hce];exact cA) h.kp.sto hu Ak h.kp.mok.many).mono ?_;rintro e w1 ⟨rfl,s1,now,h1,h2,h3⟩;refine⟨by rw[hce], ?_⟩;rw[X.ug]at hm⊢;exact h.tx h.kp h1 hm ⟨kq,h.fm.ord,h.fm.key,h.fm.lost,h.fm.last,rfl,rfl,h.fm.pos,fun e=>by cases e⟩ rfl rfl h2 (X.uJ (by exact wD) (by exact h3))
 ·rw[if_pos hs];intro hm;refine(zC h.row (by rw[kq];exact hs) A b.length cb).mono ?_;rintro e w1 ⟨rfl,h1⟩;exact⟨by rw[kq],h.same (h.at_.below h1) hm h.fm rfl rfl rfl rfl rfl⟩
theorem Cr (h:IK w0 p pf nm u fs m L w) (hu:u≤340) (v:Value) (b:J.B) (hv:Src w0 p fs v b):
  Calls Tryz.prog 26 #[.pointer (some ⟨pf,0,none⟩),v] w fun e w'=>e= .returned (.string ⟨(m.rewrite b).2.toArray⟩)∧Cq w0 p pf nm u fs (m.rewrite b).1 L w':=by
 obtain⟨s,f,g,c,ok,h⟩:=h;obtain⟨A,cb,rfl,xX⟩:=h.src hv;have hm:=X.BC h.kp.mok b;have kq:=h.fm.mode;revert hm;unfold X.M.rewrite;by_cases hs:X.cB [52,57] [3] m.mode=X.good
 ·rw[if_neg (Decidable.not_not.2 hs)];have hs':X.cB [52,57] [3] f.mode=[48,48]:=(by rw[kq];exact hs);have wD:=X.gB h.kp.mok (Decidable.not_not.2 hs);have mg:=h.kp.xf hu h.nm_ wD;by_cases uV:X.bg m.ks m.size b=false
  ·rw[if_pos uV];intro hm;refine(EY h.at_ h.ne ae h.ko h.kp.sto.two mg b A cb hs' uV).mono ?_;rintro e w1 ⟨rfl,h1⟩;exact⟨rfl,h.same (m':=m.aO) h1 hm h.fm.aO rfl rfl rfl rfl rfl⟩
  ·rw[if_neg uV];have uV:X.bg m.ks m.size b=true:=Bool.not_eq_false _▸uV;by_cases dL:m.ord=true∧m.read=false
   ·rw[if_pos dL];intro hm;refine(zL h.at_ h.ne ae h.ko h.kp.sto.two mg b A cb xX uV hs' (h.fm.ord.trans dL.1) (h.fm.read.trans dL.2)).mono ?_;rintro e w1 ⟨rfl,h1⟩;exact⟨rfl,h.same (m':=m.aO) h1 hm h.fm.aO rfl rfl rfl rfl rfl⟩
   ·rw[if_neg dL];by_cases ry:m.ord=true∧X.val m.ks 0 b≠m.last
    ·rw[if_pos ry];intro hm;have qQ:m.read=true:=Decidable.byContradiction fun hn=>dL ⟨ry.1,Bool.not_eq_true _▸hn⟩;refine(Co h.at_ h.ne ae h.ko h.kp.sto.two mg b A cb xX uV hs' (h.fm.ord.trans ry.1) (h.fm.read.trans qQ) (by rw[h.fm.last];exact ry.2)).mono ?_;rintro e w1 ⟨rfl,h1⟩;exact⟨rfl,h.same (m':=m.aO) h1 hm h.fm.aO rfl rfl rfl rfl rfl⟩
    ·rw[if_neg ry];have hgo:f.ord=true→f.read=true∧X.val m.ks 0 b=f.last:=fun a=>by
      rw[h.fm.ord]at a;refine⟨h.fm.read.trans (Decidable.byContradiction fun hn=>dL ⟨a,Bool.not_eq_true _▸hn⟩), ?_⟩;rw[h.fm.last];exact Decidable.byContradiction fun hn=>ry ⟨a,hn⟩
     cases eh:m.find (X.val m.ks 0 b)with
     |none=>
      intro hm;refine(EZ h.at_ h.ne ae h.ko h.cap h.kp.sto.two mg b A cb xX uV hs' hgo eh).mono ?_;rintro e w1 ⟨rfl,h1⟩;exact⟨rfl,h.same (m':=m.aO) h1 hm h.fm.aO rfl rfl rfl rfl rfl⟩
     |some o=>
      have hce:=X.zB m b (some o);dsimp only;by_cases cA:m.dZ b (some o)=[50,50]
      ·rw[if_pos cA];intro hm;refine(Cp h.at_ h.ne ae h.ko h.cap h.kp.sto.two mg b A cb xX uV hs' hgo eh (hce.trans cA)).mono ?_;rintro e w1 ⟨rfl,h1⟩;exact⟨rfl,h.same (m':=m.aO) h1 hm h.fm.aO rfl rfl rfl rfl rfl⟩
      ·rw[if_neg cA];intro hm;have Ak:=X.uh h.kp.mok.rows uV eh (X.pD cA) h.kp.mok.ks.one.1;refine(K3 h.at_ h.ne ae h.ko h.cap h.kp.sto.two mg b A cb xX uV hs' hgo eh (by rw[hce];exact cA) h.kp.sto hu Ak h.kp.mok.many).mono ?_;rintro e w1 ⟨rfl,s1,now,h1,h2,h3⟩;refine⟨by rw[hce], ?_⟩;rw[X.ug]at hm⊢;exact h.tx h.kp h1 hm ⟨kq,h.fm.ord,h.fm.key,h.fm.lost,h.fm.last,rfl,h.fm.written,h.fm.pos,fun e=>by cases e⟩ rfl rfl h2 (X.uJ (by exact wD) (by exact h3))
 ·rw[if_pos hs];intro hm;refine(EX h.row (by rw[kq];exact hs) A b.length cb).mono ?_;rintro e w1 ⟨rfl,h1⟩;exact⟨by rw[kq],h.same (h.at_.below h1) hm h.fm rfl rfl rfl rfl rfl⟩
end
namespace X
theorem zN {u n:Nat} {old:List (B×B)} {s:J.St} (hs:pg u old s) (fR:∀k∈s.now.map (·.1),k.length≤n) (hn:n≤300) (hm:s.now.length≤10000):
  ∀k,k≤s.now.length→J.Inv True (opened s (iT ((s.now.map (·.1)).take k)) (s.now.drop k))
 |0,_=>nb hs
 |k+1,hk=>by
  have hi:=zN hs fR hn hm k (by omega);have cQ:k<(s.now.map (·.1)).length:=(by rw[List.length_map];omega);have hd:s.now.drop k=s.now[k]::s.now.drop (k+1):=List.drop_eq_getElem_cons (by omega);have oc:(s.now.map (·.1))[k]=(s.now[k]).1:=List.getElem_map _;have ht:(s.now.map (·.1)).take (k+1)=(s.now.map (·.1)).take k++[(s.now[k]).1]:=(by rw[List.take_succ_eq_append_getElem cQ,oc]);have hlen:=qp ((s.now.map (·.1)).take k) 300 (fun x hx=>au (fR x (List.mem_of_mem_take hx)) hn);have Sb:((s.now.map (·.1)).take k).length≤10000:=(by rw[List.length_take,List.length_map];omega);rw[hd]at hi;rw[ht];exact(vW hs ((s.now.map (·.1)).take k) (s.now.drop (k+1)) s.now[k] hi (by omega)).2
theorem K7 {u n:Nat} {old:List (B×B)} {s:J.St} {nm a:B} (hs:pg u old s) (hu:u≤340) (lf:nm.length≤100) (fR:∀k∈s.now.map (·.1),k.length≤n) (hn:n≤300) (ES:(3+n)*s.now.length+9+nm.length+a.length≤11900) (Ch:a.length≤8192):
  Tx u s (opened s (iT (s.now.map (·.1))++[⟨own nm,a,false⟩]) [(own nm,a)]) [(own nm,a)]:=by
 have wX:s.now.length≤10000:=by have:=hs.many;omega
 have hi:=zN hs fR hn wX _ (aj _);rw[List.drop_length,List.take_of_length_le (by rw[List.length_map];exact Nat.le_refl _)]at hi;have hlen:=qp (s.now.map (·.1)) n fR;rw[List.length_map]at hlen;have M7:=kW nm;have ho:own nm≠[]:=fun e=>by rw[e]at M7;simp at M7
 exact(vX hs hu (s.now.map (·.1)) (own nm) a hi ho (by omega) (by omega) (by omega)).2
def Bd (nm:B) (ks:List Ky) (size u:Nat):Prop:=∃n,nm.length+n+7≤300∧(∀i,i<ks.length→lens ks i≤n)∧(3+(nm.length+n+7))*(2+ks.length*u)+9+nm.length+(attr size ks).length≤11900
theorem Bd.mono {nm:B} {ks:List Ky} {size u v:Nat} (h:Bd nm ks size v) (hu:u≤v):Bd nm ks size u:=by
 obtain⟨n,h1,h2,h3⟩:=h;refine⟨n,h1,h2,au ?_ h3⟩;have:=Nat.mul_le_mul_left (3+(nm.length+n+7)) (Nat.add_le_add_left (Nat.mul_le_mul_left ks.length hu) 2);omega
theorem De (nm:B):pre nm 0=bP nm 0 [] 0:=by
 unfold bP tail;simp
end X
section
variable {w0 : World} {p pf g c : Nat} {nm : J.B} {u : Nat} {fs : List (Nat × Obj)} {m m' : X.M} {L : List (List (J.B × J.B))} {w w' : World} {s s1 s' : J.St} {f f' : Fv} {ok : Obj}
theorem KI.IQ (h:KI w0 p pf nm u fs m L s f g c ok w) (hk:X.Kp nm u m L s') (ha:At w0 p ((pf,av p nm m.size g m.ks.length c f')::(g,ok)::fs) s' w') (hm:X.jA (u+1) m') (hf:X.FM nm m' f') (e1:m'.ks=m.ks) (e2:m'.size=m.size) (e3:m'.there=m.there) (e4:m'.rows=m.rows) (e5:m'.time=m.time):Cq w0 p pf nm u fs m' L w':=
 ⟨L, .inl rfl,s',f',g,c,ok,by rw[←e1,←e2]at ha;exact ha,hk.same hm hk.sto (X.IJ e1 e2 e3 e4 e5 _ hk.con),hf,by rw[e1];exact h.ko,by rw[e1];exact h.cap,h.ne,h.neg,h.nm_⟩
theorem K8 (h:IK w0 p pf nm u fs m L w) (hu:u≤340) (Q7:X.Bd nm m.ks m.size u) (md:Nat) (od:Bool):
  Calls Tryz.prog 12 #[.pointer (some ⟨pf,0,none⟩), .int .u8 (md:Nat), .bool od] w fun e w'=>e= .returned (.string ⟨(m.open md od).2.toArray⟩)∧Cq w0 p pf nm u fs (m.open md od).1 L w':=by
 obtain⟨s,f,g,c,ok,h⟩:=h;have hm:=X.Kk h.kp.mok md od;have kq:=h.fm.mode;revert hm;unfold X.M.open;by_cases h1:md<1∨4<md
 ·rw[if_pos h1];intro hm;refine(ET h.at_ h.ne md h1 od).mono ?_;rintro e w1 ⟨rfl,ha⟩;exact⟨rfl,h.same ha hm h.fm rfl rfl rfl rfl rfl⟩
 ·rw[if_neg h1];have uD:1≤md∧md≤4:=(by omega);have ma:=h.kp.idle;by_cases h2:m.mode≠0
  ·rw[if_pos h2];intro hm;refine(vA h.at_ h.ne h.kp.sto.opn md uD od (by rw[kq];exact h2)).mono ?_;rintro e w1 ⟨rfl,ha⟩;exact⟨rfl,h.IQ ma ha hm h.fm rfl rfl rfl rfl rfl⟩
  ·rw[if_neg h2];have h2:m.mode=0:=Decidable.not_not.1 h2;have Hk:f.mode=0:=kq.trans h2;by_cases h3:md≠2∧m.there=false
   ·rw[if_pos h3];intro hm;have hlk:J.look (J.cC (J.cT s)).now (X.own nm)=none:=by
     have:=ma.con;unfold X.M.con at this;rw[h3.2]at this;rw[show(J.cC (J.cT s)).now=[]from this];rfl
    refine(vC h.at_ h.ne ae h.ko h.kp.mok.ks h.kp.sto.opn rfl ma.sto.two h.nm_.1 Hk od md uD h3.1 hlk).mono ?_;rintro e w1 ⟨rfl,ha⟩;exact⟨rfl,h.IQ ma ha hm h.fm rfl rfl rfl rfl rfl⟩
   ·rw[if_neg h3];by_cases h4:md=2
    ·subst h4;intro hm;obtain⟨n,b1,b2,b3⟩:=Q7;have hka:=X.jE m.size m.ks;have SE:=h.kp.mok.ks.one;have hsz:(3+(nm.length+n+7))*(J.cC (J.cT s)).now.length+9+nm.length+(X.attr m.size m.ks).length≤11900∧(∀k∈(J.cC (J.cT s)).now.map (·.1),k.length≤nm.length+n+7)∧keysOf (J.cC (J.cT s)).now ⟨(nm++[0]).toArray⟩=(J.cC (J.cT s)).now.map (·.1):=by
      cases ht:m.there with
      |true=>
       have hc:=ma.cont ht;have Bj:=hc.count ma.mok.rows (by have:=ma.mok.time;omega) SE.1 (by omega);refine⟨?_,fun k hk=>hc.CO ma.mok.rows ma.mok.ks b2 hk (by have:=ma.mok.time;omega),hc.ub⟩;refine au ?_ b3;have e1:(J.cC (J.cT s)).now.length≤2+m.ks.length*u:=by
        have:=Nat.mul_le_mul_left m.ks.length ma.mok.many;have:(if 0<m.time then 1 else 0)≤1:=(by split<;>omega);omega
       have:=Nat.mul_le_mul_left (3+(nm.length+n+7)) e1;omega
      |false=>
       have:=ma.con;unfold X.M.con at this;rw[ht]at this;have CT:(J.cC (J.cT s)).now=[]:=this;rw[CT];refine⟨?_,(fun k hk=>by cases hk),rfl⟩;refine au ?_ b3;simp only[List.length_nil,Nat.mul_zero];omega
     obtain⟨z1,z2,z3⟩:=hsz;have mL:=X.K7 (nm:=nm) (a:=X.attr m.size m.ks) ma.sto hu h.nm_.1 z2 b1 z1 (by omega);have nK:∀w1,At w0 p ((pf,av p nm m.size g m.ks.length c {f with mode:=2,ord:=od,key:=0,at_:=X.pre nm 0,same:=true,lost:=false,read:=false,written:=[]})::(g,ok)::fs) (J.aI (X.opened (J.cC (J.cT s)) (X.iT ((J.cC (J.cT s)).now.map (·.1))++[⟨X.own nm,X.attr m.size m.ks,false⟩]) [(X.own nm,X.attr m.size m.ks)])) w1→Cq w0 p pf nm u fs (m.opened 2 od) L w1:=fun w1 ha=>
      h.tx ma ha hm ⟨rfl,rfl,rfl,rfl,h.fm.last,rfl,rfl,(fun _ _=>⟨X.De nm,rfl⟩),fun e=>by cases e⟩ rfl rfl mL (X.uJ rfl (xF h.kp.mok.ks nm))
     cases hlk:J.look (J.cC (J.cT s)).now (X.own nm)with
     |none=>
      refine(Cl h.at_ h.ne ae h.ko h.kp.mok.ks h.kp.sto.opn ma.sto hu rfl h.nm_ Hk od 2 uD rfl hlk z3 z2 b1 z1).mono ?_;rintro e w1 ⟨rfl,ha⟩;exact⟨rfl,nK _ ha⟩
     |some a=>
      refine(Cn h.at_ h.ne ae h.ko h.kp.mok.ks h.kp.sto.opn ma.sto hu rfl h.nm_ Hk od 2 uD rfl a (by have:=ma.sto.len hlk;omega) hlk z3 z2 b1 z1).mono ?_;rintro e w1 ⟨rfl,ha⟩;exact⟨rfl,nK _ ha⟩
    ·intro hm;have wD:m.there=true:=by
      cases ht:m.there with
      |true=>rfl
      |false=>exact absurd ⟨h4,ht⟩ h3
     refine(zE h.at_ h.ne ae h.ko h.kp.mok.ks h.kp.sto.opn rfl ma.sto.two h.nm_.1 Hk od md uD h4 (ma.xf hu h.nm_ wD)).mono ?_;rintro e w1 ⟨rfl,ha⟩;refine⟨rfl,h.IQ ma ha hm ⟨rfl,rfl,rfl,rfl,h.fm.last,rfl,rfl,(fun _ _=>⟨X.De nm,rfl⟩),fun e=>by cases e⟩ rfl rfl wD.symm ?_ ?_⟩
     ·show(if md=2 then []else m.rows)=m.rows;rw[if_neg h4]
     ·show(if md=2 then 0 else m.time)=m.time;rw[if_neg h4]
end
section
variable {w0 : World} {p pf g c size ct u : Nat} {nm : J.B} {ks : List X.Ky} {rows : List X.Row} {f : Fv} {w w' : World} {s s1 s2 : J.St} {fs : List (Nat × Obj)} {ok : Obj}
theorem E1 (h0:w.heap[pf]? =some (av p nm size g ks.length c f)) (hs:X.cB [52,57] [3] f.mode≠[48,48]) (A:Option Addr) (m cb:Nat):
  Calls Tryz.prog 27 #[.pointer (some ⟨pf,0,none⟩), .slice A m cb] w fun e w'=>e= .returned (.string ⟨(X.cB [52,57] [3] f.mode).toArray⟩)∧Below w.heap.size w w':=by
 have hlt:=(ah h0).1;have hb1:Below w.heap.size w (w.alloc (aB pf)):=(ai _ w).alloc (aj _) _;have bR:=aa (aQ ((hb1.block pf hlt).trans h0) [52,57] [3] 1 #[.int .u8 3] rfl rfl (by decide) (w.heap.size+1) (by simp));have hne:=rV hs;have HB:=aa (hb1.alloc hb1.size (.cells #[.int .u8 3] 32));generalize(⟨(X.cB [52,57] [3] f.mode).toArray⟩:ByteArray)=st at bR hne⊢;clear h0 hs hlt hb1;go_enter Tryz.func27,Tryz.ntmps27;go_wp2_with fail;refine bR.out.mono ?_;rintro e W1 ⟨rfl,hW1⟩;subst hW1;clear bR;go_wp2;go_ret;exact⟨rfl,HB.out⟩
theorem Cs (h:At w0 p ((pf,av p nm size g ks.length c f)::fs) s w) (hf:∀x∈fs,x.1≠pf) (bq:(g,ok)∈fs) (hO:bI ok ks) (ht:J.Two s) (hX:XF nm size ks rows ct s.now) (b:J.B) (A:Option Addr) (cb:Nat) (hs:X.cB [52,57] [3] f.mode=[48,48]) (dL:f.ord=false) (hl:b.length<(X.aF ks 0).at_+(X.aF ks 0).len) (hk:(X.aF ks 0).at_+(X.aF ks 0).len≤1000000):
  Calls Tryz.prog 27 #[.pointer (some ⟨pf,0,none⟩), .slice A b.length cb] w fun e w'=>e= .returned (.string ⟨#[52,52]⟩)∧At w0 p ((pf,av p nm size g ks.length c {f with read:=false})::fs) s w':=by
 have hw:wrap64 (((X.aF ks 0).at_:Int)+(X.aF ks 0).len)=(((X.aF ks 0).at_+(X.aF ks 0).len:Nat):Int):=by rw[IntWalk.wrap64_in _ (by omega)];omega
 have hw2:IntKind.i64.wrap (((X.aF ks 0).at_:Int)+(X.aF ks 0).len)=(((X.aF ks 0).at_+(X.aF ks 0).len:Nat):Int):=by rw[IntKind.wrap_i64];omega
 have O3:(b.length:Int)<(((X.aF ks 0).at_+(X.aF ks 0).len:Nat):Int):=by omega
 clear hk;obtain⟨hB,hf2⟩:=h.iN hf (aB pf);have aN:=hX.ks.one;have bR:=aa (aQ (hB.get ae) [52,57] [3] 1 #[.int .u8 3] rfl rfl (by decide) (w.heap.size+1) (by simp));rw[hs]at bR;have HA:=aa (hB.below ((ai _ _).alloc (aj _) (.cells #[.int .u8 3] 32)));have dK:=aa (fun W (hh:At w0 p ((pf,av p nm size g ks.length c {f with read:=false})::(w.heap.size,aB pf)::fs) s W)=>hO.2 W g (hh.get (af _ (af _ bq))));have zO:=aa (fun W (hh:At w0 p ((pf,av p nm size g ks.length c f)::(w.heap.size,aB pf)::fs) s W) (h1:W.heap[pf]? =some (av p nm size g ks.length c f))=>bc (f':={f with read:=false}) hh hf2 ht (ay (World.grownBy.refl W (some pf)) 11 (.bool false)) (aC h1 11 (.bool false)));have cP:=aa aN;clear h hs hf bq hO ht hX hB hf2 aN;go_enter Tryz.func27,Tryz.ntmps27;go_wp2_with fail;refine bR.out.mono ?_;rintro e W1 ⟨rfl,hW1⟩;subst hW1;clear bR;refine aG (fun X=>At w0 p ((pf,av p nm size g ks.length c f)::(w.heap.size,aB pf)::fs) s X) HA.out ?_;intro W ha;clear HA;have h1:W.heap[pf]? =some (av p nm size g ks.length c f):=ha.get ae;have hz:=az h1;have hc:=fun j=>ag W pf j _ _ _ h1;have b6:=fun j=>ag W w.heap.size j _ _ _ (ha.get (af _ ae));have HG:=aa (zO.out _ ha h1);clear ha h1 zO;go_upto_region 6 with fail;refine aG (fun Y=>At w0 p ((pf,av p nm size g ks.length c {f with read:=false})::(w.heap.size,aB pf)::fs) s Y) HG.out ?_;intro W2 ha2;have dD:=aa ha2;have hc:=fun j=>ag W2 pf j _ _ _ (ha2.get ae);have b6:=fun j=>ag W2 w.heap.size j _ _ _ (ha2.get (af _ ae));have cQ:0<ks.length:=by have:=cP.out;omega
 have bh:=dK.out _ ha2;have k1:=bh.at_ cQ;have k2:=bh.len cQ;have k3:=bh.dup cQ;rw[Nat.zero_mul]at k1 k2 k3;rw[Nat.zero_add]at k2 k3;have pK:(0:Int)<(ks.length:Nat):=by omega
 have HZ:=aa (heap_alloc_new W2 dz);clear ha2 HG bh dK hz;go_wp2_with (refine wpList_store_row rfl _ _ 66 rfl W2.heap.size rfl _ rfl _ _ HZ.out rfl (by kernel_rfl) rfl ?_);intro W3 hrow hg hsz;obtain⟨kC,hb3⟩:=dD.out.stored dz hg;have hrow:W3.heap[W2.heap.size]? =some (aK (X.aF ks 0)):=hrow;have bH:=aa kC;have hc:=fun j=>ag W3 pf j _ _ _ (kC.get ae);have b6:=fun j=>ag W3 w.heap.size j _ _ _ (kC.get (af _ ae));have gX:=fun j=>ag W3 W2.heap.size j _ _ _ hrow;clear kC hb3 hrow hg hsz HZ k1 k2 k3 dD;rw[dL]at hc;clear dL;go_wp2;go_ret;exact⟨rfl,bH.out.less (fun y hy=>by rcases ak hy with rfl|hy;exact ae;exact af _ (af _ hy))⟩
theorem zP (h:At w0 p ((pf,av p nm size g ks.length c f)::fs) s w) (hf:∀x∈fs,x.1≠pf) (bq:(g,ok)∈fs) (hO:bI ok ks) (ht:J.Two s) (hX:XF nm size ks rows ct s.now) (b:J.B) (A:Option Addr) (cb:Nat) (hs:X.cB [52,57] [3] f.mode=[48,48]) (dL:f.ord=true) (qQ:f.read=false):
  Calls Tryz.prog 27 #[.pointer (some ⟨pf,0,none⟩), .slice A b.length cb] w fun e w'=>e= .returned (.string ⟨#[52,51]⟩)∧At w0 p ((pf,av p nm size g ks.length c {f with read:=false})::fs) s w':=by
 have yM:=aa qQ;clear qQ;obtain⟨hB,hf2⟩:=h.iN hf (aB pf);have aN:=hX.ks.one;have bR:=aa (aQ (hB.get ae) [52,57] [3] 1 #[.int .u8 3] rfl rfl (by decide) (w.heap.size+1) (by simp));rw[hs]at bR;have HA:=aa (hB.below ((ai _ _).alloc (aj _) (.cells #[.int .u8 3] 32)));have dK:=aa (fun W (hh:At w0 p ((pf,av p nm size g ks.length c {f with read:=false})::(w.heap.size,aB pf)::fs) s W)=>hO.2 W g (hh.get (af _ (af _ bq))));have zO:=aa (fun W (hh:At w0 p ((pf,av p nm size g ks.length c f)::(w.heap.size,aB pf)::fs) s W) (h1:W.heap[pf]? =some (av p nm size g ks.length c f))=>bc (f':={f with read:=false}) hh hf2 ht (ay (World.grownBy.refl W (some pf)) 11 (.bool false)) (aC h1 11 (.bool false)));have cP:=aa aN;clear h hs hf bq hO ht hX hB hf2 aN;go_enter Tryz.func27,Tryz.ntmps27;go_wp2_with fail;refine bR.out.mono ?_;rintro e W1 ⟨rfl,hW1⟩;subst hW1;clear bR;refine aG (fun X=>At w0 p ((pf,av p nm size g ks.length c f)::(w.heap.size,aB pf)::fs) s X) HA.out ?_;intro W ha;clear HA;have h1:W.heap[pf]? =some (av p nm size g ks.length c f):=ha.get ae;have hz:=az h1;have hc:=fun j=>ag W pf j _ _ _ h1;have b6:=fun j=>ag W w.heap.size j _ _ _ (ha.get (af _ ae));rw[yM.out]at hc;have HG:=aa (zO.out _ ha h1);clear ha h1 zO;go_upto_region 6 with fail;refine aG (fun Y=>At w0 p ((pf,av p nm size g ks.length c {f with read:=false})::(w.heap.size,aB pf)::fs) s Y) HG.out ?_;intro W2 ha2;have dD:=aa ha2;have hc:=fun j=>ag W2 pf j _ _ _ (ha2.get ae);have b6:=fun j=>ag W2 w.heap.size j _ _ _ (ha2.get (af _ ae));have cQ:0<ks.length:=by have:=cP.out;omega
 have bh:=dK.out _ ha2;have k1:=bh.at_ cQ;have k2:=bh.len cQ;have k3:=bh.dup cQ;rw[Nat.zero_mul]at k1 k2 k3;rw[Nat.zero_add]at k2 k3;have pK:(0:Int)<(ks.length:Nat):=by omega
 have HZ:=aa (heap_alloc_new W2 dz);clear ha2 HG bh dK hz;go_wp2_with (refine wpList_store_row rfl _ _ 66 rfl W2.heap.size rfl _ rfl _ _ HZ.out rfl (by kernel_rfl) rfl ?_);intro W3 hrow hg hsz;obtain⟨kC,hb3⟩:=dD.out.stored dz hg;have hrow:W3.heap[W2.heap.size]? =some (aK (X.aF ks 0)):=hrow;have bH:=aa kC;have hc:=fun j=>ag W3 pf j _ _ _ (kC.get ae);have b6:=fun j=>ag W3 w.heap.size j _ _ _ (kC.get (af _ ae));have gX:=fun j=>ag W3 W2.heap.size j _ _ _ hrow;clear kC hb3 hrow hg hsz HZ k1 k2 k3 dD;rw[dL]at hc;clear dL;go_wp2;go_ret;exact⟨rfl,bH.out.less (fun y hy=>by rcases ak hy with rfl|hy;exact ae;exact af _ (af _ hy))⟩
end
end Go.Proofs.YtipljcmmokaokaaGreat
