import Derived.Test.YtipljcmmokaokaaGreatQM14
set_option linter.unusedVariables false
set_option linter.unusedSimpArgs false
set_option maxHeartbeats 1000000
namespace Go.Proofs.YtipljcmmokaokaaGreat
open Go.RowKit Go.Lib Go.Maps Go.WideMaps Go.Sort
set_option maxRecDepth 100000
theorem rV {x y:J.B} (h:x≠y):((⟨x.toArray⟩:ByteArray).toList==y)=false:=by
 rw[ByteArray.toList_eq]
 simpa using h
section
variable {w0 : World} {p pf g c size ct u : Nat} {nm : J.B} {ks : List X.Ky} {rows : List X.Row} {f : Fv} {w w' : World} {s s1 s2 : J.St} {fs : List (Nat × Obj)} {ok : Obj}
theorem BJ (h0:w.heap[pf]? =some (av p nm size g ks.length c f)) (hs:X.cB [52,55] [1,3] f.mode≠[48,48]):
  Calls Tryz.prog 20 #[.pointer (some ⟨pf,0,none⟩)] w fun e w'=>e= .returned (.tuple #[.slice none 0 0, .string ⟨(X.cB [52,55] [1,3] f.mode).toArray⟩])∧Below w.heap.size w w':=by
 have bR:=aa (aQ h0 [52,55] [1,3] 2 #[.int .u8 1, .int .u8 3] rfl rfl (by decide) w.heap.size rfl);have hne:=rV hs;have HB:=aa ((ai _ w).alloc (aj _) (.cells #[.int .u8 1, .int .u8 3] 32));generalize(⟨(X.cB [52,55] [1,3] f.mode).toArray⟩:ByteArray)=st at bR hne⊢;clear h0 hs;go_enter Tryz.func20,Tryz.ntmps20;go_wp2_with fail;refine bR.out.mono ?_;rintro e W1 ⟨rfl,hW1⟩;subst hW1;clear bR;go_wp2;go_ret2;exact⟨rfl,HB.out⟩
theorem BK (h:At w0 p ((pf,av p nm size g ks.length c f)::fs) s w) (hf:∀x∈fs,x.1≠pf) (bq:(g,ok)∈fs) (hO:bI ok ks) (ht:J.Two s) (hX:XF nm size ks rows ct s.now) (hs:X.cB [52,55] [1,3] f.mode=[48,48]) (hl:f.lost=true):
  Calls Tryz.prog 20 #[.pointer (some ⟨pf,0,none⟩)] w fun e w'=>e= .returned (.tuple #[.slice none 0 0, .string ⟨#[52,54]⟩])∧At w0 p ((pf,av p nm size g ks.length c {f with read:=false})::fs) s w':=by
 have hlt:=(ah (h.get ae)).1;have hlt:pf<w.heap.size:=hlt;have bR:=aa (aQ (h.get ae) [52,55] [1,3] 2 #[.int .u8 1, .int .u8 3] rfl rfl (by decide) w.heap.size rfl);rw[hs]at bR;have HA:=aa (h.below ((ai _ w).alloc (aj _) (.cells #[.int .u8 1, .int .u8 3] 32)));clear h hs;go_enter Tryz.func20,Tryz.ntmps20;go_wp2_with fail;refine bR.out.mono ?_;rintro e W1 ⟨rfl,hW1⟩;subst hW1;clear bR;refine aG (fun X=>At w0 p ((pf,av p nm size g ks.length c f)::fs) s X∧Below w.heap.size w X) ⟨HA.out,(ai _ w).alloc (aj _) _⟩ ?_;rintro W ⟨ha,kN⟩;clear HA;have h1:W.heap[pf]? =some (av p nm size g ks.length c f):=ha.get ae;have hz:=az h1;have hc:=fun j=>ag W pf j _ _ _ h1;rw[hl]at hc;have HG:=aa (bc (f':={f with read:=false}) ha hf ht (ay (World.grownBy.refl W (some pf)) 11 (.bool false)) (aC h1 11 (.bool false)));clear ha hf bq hO ht hX h1;go_wp2;go_ret2;exact⟨rfl,HG.out⟩
theorem BL (h:At w0 p ((pf,av p nm size g ks.length c f)::fs) s w) (hf:∀x∈fs,x.1≠pf) (bq:(g,ok)∈fs) (hO:bI ok ks) (ht:J.Two s) (hX:XF nm size ks rows ct s.now) (hs:X.cB [52,55] [1,3] f.mode=[48,48]) (hl:f.lost=false) (hkey:f.key<ks.length) (hp:afterOf s.now ⟨(X.pre nm f.key).toArray⟩ f.at_ f.same=none):
  Calls Tryz.prog 20 #[.pointer (some ⟨pf,0,none⟩)] w fun e w'=>e= .returned (.tuple #[.slice none 0 0, .string ⟨#[49,48]⟩])∧At w0 p ((pf,av p nm size g ks.length c {f with at_:=[],same:=false,lost:=true,read:=false})::fs) s w':=by
 have hlt:=(ah (h.get ae)).1;have hlt:pf<w.heap.size:=hlt;have bR:=aa (aQ (h.get ae) [52,55] [1,3] 2 #[.int .u8 1, .int .u8 3] rfl rfl (by decide) w.heap.size rfl);rw[hs]at bR;have HA:=aa (h.below ((ai _ w).alloc (aj _) (.cells #[.int .u8 1, .int .u8 3] 32)));have hP:=fun W=>aZ nm size (some ⟨g,0,none⟩) ks.length c f.key (by have:=hX.ks.one;omega) (by have:=hX.nm;omega) W;have qs:=fun w1 (hh:At w0 p ((pf,av p nm size g ks.length c f)::fs) s w1)=>iP hh ⟨(X.pre nm f.key).toArray⟩ f.at_ f.same (by have:=hX.many;omega);rw[hp]at qs;have HP:=aa hP;have rq:=aa qs;have HF:=aa (fun w1 (hh:At w0 p ((pf,av p nm size g ks.length c f)::fs) s w1) w2 (hg:w1.grownBy w2 (some pf)) (hr:w2.heap[pf]? =some (av p nm size g ks.length c {f with at_:=[],same:=false,lost:=true,read:=false}))=>bc hh hf ht hg hr);generalize(⟨(X.pre nm f.key).toArray⟩:ByteArray)=P at HP rq;clear hP qs hp hf bq hO ht hX hkey;clear h hs;go_enter Tryz.func20,Tryz.ntmps20;go_wp2_with fail;refine bR.out.mono ?_;rintro e W1 ⟨rfl,hW1⟩;subst hW1;clear bR;refine aG (fun X=>At w0 p ((pf,av p nm size g ks.length c f)::fs) s X∧Below w.heap.size w X) ⟨HA.out,(ai _ w).alloc (aj _) _⟩ ?_;rintro W ⟨ha,kN⟩;clear HA;have hc:=fun j=>ag W pf j _ _ _ (ha.get (ae:(pf,av p nm size g ks.length c f)∈(pf,av p nm size g ks.length c f)::fs));rw[hl]at hc;go_wp2_with fail;clear hc;refine aA 28 (.rd 0 (.rd 1 (.rd 2 (.rd 3 (.rd 4 (.rd 5 (.rd 6 (.rd 7 (.rd 8 (.rd 9 (.rd 10 (.rd 11 (.rd 13 (.rd 14 (.rd 15 (.rd 16 (.rd 17 (.rd 18 (.rd 19 (.rd 20 (.rd 21 (.rd 22 (.wr 12 (.wr 23 (.rd 24 (.rd 25 (.rd 26 (.wr 27 .fin)))))))))))))))))))))))))))) (fun w'=>At w0 p ((pf,av p nm size g ks.length c f)::fs) s w') (by kernel_rfl) (by kernel_rfl) (fun c a d v w h=>by cases d<;>exact h) (ha.below ((ai _ _).drew)) ?_;repeat
  refine aw (v:= ?_) (by rfl) (by rfl) (fun w' hS=> ?_) (fun K hK=> ?_);rotate_left
  ·have hc:=fun j=>ag w' pf j _ _ _ (hS.get (ae:(pf,av p nm size g ks.length c f)∈(pf,av p nm size g ks.length c f)::fs));rw[hl]at hc;clear hS;go_simp;try with_reducible rfl
  go_simp;refine hK _ ?_;clear hK K
 refine wpPm_write (by rfl) (fun K hK=> ?_);go_simp;refine(HP.out _).mono ?_;rintro e W2 ⟨rfl,hb⟩;have dD:=aa (ha.below (((ai _ W).drew).trans hb));have bB:=aa (kN.trans ((((ai _ W).drew).trans hb).mono kN.size));refine hK.out _ _ (fun w'=>At w0 p ((pf,av p nm size g ks.length c f)::fs) s w') (fun _ h=>h) dD.out ?_;clear hK K;clear hb;refine wpPm_write (by rfl) (fun K hK=> ?_);go_simp;refine(rq.out _ dD.out).mono ?_;rintro e W3 ⟨rfl,hb⟩;have bH:=aa (dD.out.below hb);have cO:=aa (bB.out.trans (hb.mono bB.out.size));refine hK.out _ _ (fun w'=>At w0 p ((pf,av p nm size g ks.length c f)::fs) s w') (fun _ h=>h) bH.out ?_;clear hK K;clear hb;repeat
  refine aw (v:= ?_) (by rfl) (by rfl) (fun w' hS=> ?_) (fun K hK=> ?_);rotate_left
  ·have hc:=fun j=>ag w' pf j _ _ _ (hS.get (ae:(pf,av p nm size g ks.length c f)∈(pf,av p nm size g ks.length c f)::fs));rw[hl]at hc;clear hS;go_simp;try with_reducible rfl
  go_simp;refine hK _ ?_;clear hK K
 refine wpPm_write (by rfl) (fun K hK=> ?_);go_simp;refine hK.out _ _ (fun w'=>At w0 p ((pf,av p nm size g ks.length c f)::fs) s w') (fun _ h=>h) bH.out ?_;clear hK K;show wpList _ _ _ _ _ _;go_wp2_with fail;refine(kK (bH.out.get ae)).mono ?_;rintro e W4 ⟨⟨_,rfl⟩,hg,hr⟩;have bG:=aa (HF.out _ bH.out _ hg hr);clear hg hr HF;go_wp2;go_ret2;exact⟨rfl,bG.out⟩
theorem BM (h:At w0 p ((pf,av p nm size g ks.length c f)::fs) s w) (hf:∀x∈fs,x.1≠pf) (bq:(g,ok)∈fs) (hO:bI ok ks) (ht:J.Two s) (hX:XF nm size ks rows ct s.now) (hs:X.cB [52,55] [1,3] f.mode=[48,48]) (hl:f.lost=false) (hkey:f.key<ks.length) (r:X.Row) (hr:r∈rows) (hp:afterOf s.now ⟨(X.pre nm f.key).toArray⟩ f.at_ f.same=some (X.aJ nm ks f.key r)):
  Calls Tryz.prog 20 #[.pointer (some ⟨pf,0,none⟩)] w fun e w'=>∃v,e= .returned (.tuple #[v, .string ⟨(kQ ks rows f.key r).toArray⟩])∧cE w' (· <w.heap.size) v r.b∧At w0 p ((pf,av p nm size g ks.length c {f with at_:=X.aJ nm ks f.key r,same:=false,lost:=false,last:=X.val ks 0 r.b,read:=true})::fs) s w':=by
 have hlt:=(ah (h.get ae)).1;have hlt:pf<w.heap.size:=hlt;have bR:=aa (aQ (h.get ae) [52,55] [1,3] 2 #[.int .u8 1, .int .u8 3] rfl rfl (by decide) w.heap.size rfl);rw[hs]at bR;have HA:=aa (h.below ((ai _ w).alloc (aj _) (.cells #[.int .u8 1, .int .u8 3] 32)));have hP:=fun W=>aZ nm size (some ⟨g,0,none⟩) ks.length c f.key (by have:=hX.ks.one;omega) (by have:=hX.nm;omega) W;have qs:=fun w1 (hh:At w0 p ((pf,av p nm size g ks.length c f)::fs) s w1)=>iP hh ⟨(X.pre nm f.key).toArray⟩ f.at_ f.same (by have:=hX.many;omega);rw[hp]at qs;have HP:=aa hP;have rq:=aa qs;have vh:=aa (fun w1 (hh:At w0 p ((pf,av p nm size g ks.length c f)::fs) s w1)=>wh hh hf bq hO ht hX hkey r hr);generalize kQ ks rows f.key r=st at vh⊢;generalize(⟨(X.pre nm f.key).toArray⟩:ByteArray)=P at HP rq;clear hP qs hp hf bq hO ht hX hkey hr;clear h hs;go_enter Tryz.func20,Tryz.ntmps20;go_wp2_with fail;refine bR.out.mono ?_;rintro e W1 ⟨rfl,hW1⟩;subst hW1;clear bR;refine aG (fun X=>At w0 p ((pf,av p nm size g ks.length c f)::fs) s X∧Below w.heap.size w X) ⟨HA.out,(ai _ w).alloc (aj _) _⟩ ?_;rintro W ⟨ha,kN⟩;clear HA;have hc:=fun j=>ag W pf j _ _ _ (ha.get (ae:(pf,av p nm size g ks.length c f)∈(pf,av p nm size g ks.length c f)::fs));rw[hl]at hc;go_wp2_with fail;clear hc;refine aA 28 (.rd 0 (.rd 1 (.rd 2 (.rd 3 (.rd 4 (.rd 5 (.rd 6 (.rd 7 (.rd 8 (.rd 9 (.rd 10 (.rd 11 (.rd 13 (.rd 14 (.rd 15 (.rd 16 (.rd 17 (.rd 18 (.rd 19 (.rd 20 (.rd 21 (.rd 22 (.wr 12 (.wr 23 (.rd 24 (.rd 25 (.rd 26 (.wr 27 .fin)))))))))))))))))))))))))))) (fun w'=>At w0 p ((pf,av p nm size g ks.length c f)::fs) s w') (by kernel_rfl) (by kernel_rfl) (fun c a d v w h=>by cases d<;>exact h) (ha.below ((ai _ _).drew)) ?_;repeat
  refine aw (v:= ?_) (by rfl) (by rfl) (fun w' hS=> ?_) (fun K hK=> ?_);rotate_left
  ·have hc:=fun j=>ag w' pf j _ _ _ (hS.get (ae:(pf,av p nm size g ks.length c f)∈(pf,av p nm size g ks.length c f)::fs));rw[hl]at hc;clear hS;go_simp;try with_reducible rfl
  go_simp;refine hK _ ?_;clear hK K
 refine wpPm_write (by rfl) (fun K hK=> ?_);go_simp;refine(HP.out _).mono ?_;rintro e W2 ⟨rfl,hb⟩;have dD:=aa (ha.below (((ai _ W).drew).trans hb));have bB:=aa (kN.trans ((((ai _ W).drew).trans hb).mono kN.size));refine hK.out _ _ (fun w'=>At w0 p ((pf,av p nm size g ks.length c f)::fs) s w') (fun _ h=>h) dD.out ?_;clear hK K;clear hb;refine wpPm_write (by rfl) (fun K hK=> ?_);go_simp;refine(rq.out _ dD.out).mono ?_;rintro e W3 ⟨rfl,hb⟩;have bH:=aa (dD.out.below hb);have cO:=aa (bB.out.trans (hb.mono bB.out.size));refine hK.out _ _ (fun w'=>At w0 p ((pf,av p nm size g ks.length c f)::fs) s w') (fun _ h=>h) bH.out ?_;clear hK K;clear hb;repeat
  refine aw (v:= ?_) (by rfl) (by rfl) (fun w' hS=> ?_) (fun K hK=> ?_);rotate_left
  ·have hc:=fun j=>ag w' pf j _ _ _ (hS.get (ae:(pf,av p nm size g ks.length c f)∈(pf,av p nm size g ks.length c f)::fs));rw[hl]at hc;clear hS;go_simp;try with_reducible rfl
  go_simp;refine hK _ ?_;clear hK K
 refine wpPm_write (by rfl) (fun K hK=> ?_);go_simp;refine hK.out _ _ (fun w'=>At w0 p ((pf,av p nm size g ks.length c f)::fs) s w') (fun _ h=>h) bH.out ?_;clear hK K;show wpList _ _ _ _ _ _;go_wp2_with fail;refine(vh.out _ bH.out).mono ?_;rintro e W4 ⟨v,rfl,Bw,xi⟩;have bG:=aa xi;have TK:=aa (Bw.weak (M':=(· <w.heap.size)) (fun k hk=>aq hk cO.out.size));clear Bw xi vh;go_wp2;go_ret2;exact⟨_,rfl,TK.out,bG.out⟩
end
def Src (w0:World) (p:Nat) (fs:List (Nat×Obj)) (v:Value) (l:J.B):Prop:=∀gs t w1,(∀x∈fs,x∈gs)→At w0 p gs t w1→Sl w1 bL v l
abbrev aK (k:X.Ky):Obj:= .cells #[.int .i64 (k.at_:Nat), .int .i64 (k.len:Nat), .bool k.dup] 66 (0,0)
abbrev dz:Obj:= .cells #[.int .i64 0, .int .i64 0, .bool false] 66 (0,0)
section
variable {w0 : World} {p pf g c size ct u : Nat} {nm : J.B} {ks : List X.Ky} {rows : List X.Row} {f : Fv} {w w' : World} {s s1 s2 : J.St} {fs : List (Nat × Obj)} {ok : Obj}
theorem Src.slice {v:Value} {l:J.B} {gs:List (Nat×Obj)} (h:Src w0 p fs v l) (ha:At w0 p gs s w) (hg:∀x∈fs,x∈gs):∃A c,v= .slice A l.length c:=by
 obtain⟨A,c,e,_⟩:=(h _ _ _ hg ha).by
 exact⟨A,c,e⟩
theorem cM {x:Nat×Obj}:∀y∈fs,y∈x::fs:=fun _ hy=>af _ hy
theorem At.stored (h:At w0 p fs s w) (o:Obj) (hg:(w.alloc o).grownBy w' (some w.heap.size)):At w0 p fs s w'∧Below w.heap.size w w':=by
 have hb:Below w.heap.size w w':=((ai _ w).alloc (aj _) o).grown hg (by simp) (fun k e=>by injection e with e;omega);exact⟨h.below hb,hb⟩
theorem BN (h0:w.heap[pf]? =some (av p nm size g ks.length c f)) (hs:X.cB [52,55] [1,3] f.mode≠[48,48]) (k:Int) (A:Option Addr) (m cb:Nat):
  Calls Tryz.prog 25 #[.pointer (some ⟨pf,0,none⟩), .int .i64 k, .slice A m cb] w fun e w'=>e= .returned (.tuple #[.slice none 0 0, .string ⟨(X.cB [52,55] [1,3] f.mode).toArray⟩])∧Below w.heap.size w w':=by
 have bR:=aa (aQ h0 [52,55] [1,3] 2 #[.int .u8 1, .int .u8 3] rfl rfl (by decide) w.heap.size rfl);have hne:=rV hs;have HB:=aa ((ai _ w).alloc (aj _) (.cells #[.int .u8 1, .int .u8 3] 32));generalize(⟨(X.cB [52,55] [1,3] f.mode).toArray⟩:ByteArray)=st at bR hne⊢;clear h0 hs;go_enter Tryz.func25,Tryz.ntmps25;go_wp2_with fail;refine bR.out.mono ?_;rintro e W1 ⟨rfl,hW1⟩;subst hW1;clear bR;go_wp2;go_ret2;exact⟨rfl,HB.out⟩
theorem Ej (h:At w0 p ((pf,av p nm size g ks.length c f)::fs) s w) (hf:∀x∈fs,x.1≠pf) (bq:(g,ok)∈fs) (hO:bI ok ks) (ht:J.Two s) (hX:XF nm size ks rows ct s.now) (hs:X.cB [52,55] [1,3] f.mode=[48,48]) (k:Int) (hk:k<0∨ks.length≤k) (A:Option Addr) (cb:Nat) (b:J.B):
  Calls Tryz.prog 25 #[.pointer (some ⟨pf,0,none⟩), .int .i64 k, .slice A b.length cb] w fun e w'=>e= .returned (.tuple #[.slice none 0 0, .string ⟨#[50,51]⟩])∧At w0 p ((pf,av p nm size g ks.length c {f with at_:=[],same:=false,lost:=true,read:=false})::fs) s w':=by
 have hlt:=(ah (h.get ae)).1;have hlt:pf<w.heap.size:=hlt;have bR:=aa (aQ (h.get ae) [52,55] [1,3] 2 #[.int .u8 1, .int .u8 3] rfl rfl (by decide) w.heap.size rfl);rw[hs]at bR;have HA:=aa (h.below ((ai _ w).alloc (aj _) (.cells #[.int .u8 1, .int .u8 3] 32)));have HF:=aa (fun w1 (hh:At w0 p ((pf,av p nm size g ks.length c f)::fs) s w1) w2 (hg:w1.grownBy w2 (some pf)) (hr:w2.heap[pf]? =some (av p nm size g ks.length c {f with at_:=[],same:=false,lost:=true,read:=false}))=>bc hh hf ht hg hr);clear hf bq hO ht hX;clear h hs;go_enter Tryz.func25,Tryz.ntmps25;go_wp2_with fail;refine bR.out.mono ?_;rintro e W1 ⟨rfl,hW1⟩;subst hW1;clear bR;refine aG (fun X=>At w0 p ((pf,av p nm size g ks.length c f)::fs) s X∧Below w.heap.size w X) ⟨HA.out,(ai _ w).alloc (aj _) _⟩ ?_;rintro W ⟨ha,kN⟩;clear HA;go_wp2_with fail;refine(kK (ha.get ae)).mono ?_;rintro e W2 ⟨⟨_,rfl⟩,hg,hr⟩;have ha2:=HF.out _ ha _ hg hr;have bB:Hid (w.heap.size≤W2.heap.size):=aa (au kN.size hg.size);clear hg hr HF ha kN;have dD:=aa ha2;have hc:=fun j=>ag W2 pf j _ _ _ (ha2.get (ae:(pf,av p nm size g ks.length c {f with at_:=[],same:=false,lost:=true,read:=false})∈(pf,av p nm size g ks.length c {f with at_:=[],same:=false,lost:=true,read:=false})::fs));clear ha2;rcases hk with hk|hk
 ·go_wp2;go_ret2;exact⟨rfl,dD.out⟩
 ·have cQ:¬k<0:=(by omega);go_wp2;go_ret2;exact⟨rfl,dD.out⟩
theorem ze (h:At w0 p ((pf,av p nm size g ks.length c f)::fs) s w) (hf:∀x∈fs,x.1≠pf) (bq:(g,ok)∈fs) (hO:bI ok ks) (ht:J.Two s) (hX:XF nm size ks rows ct s.now) (hs:X.cB [52,55] [1,3] f.mode=[48,48]) (i:Nat) (hi:i<ks.length) (A:Option Addr) (cb:Nat) (b:J.B) (hb:b.length<(X.aF ks i).at_+(X.aF ks i).len):
  Calls Tryz.prog 25 #[.pointer (some ⟨pf,0,none⟩), .int .i64 (i:Nat), .slice A b.length cb] w fun e w'=>e= .returned (.tuple #[.slice none 0 0, .string ⟨#[52,52]⟩])∧At w0 p ((pf,av p nm size g ks.length c {f with at_:=[],same:=false,lost:=true,read:=false})::fs) s w':=by
 have hlt:=(ah (h.get ae)).1;have hlt:pf<w.heap.size:=hlt;have bR:=aa (aQ (h.get ae) [52,55] [1,3] 2 #[.int .u8 1, .int .u8 3] rfl rfl (by decide) w.heap.size rfl);rw[hs]at bR;have HA:=aa (h.below ((ai _ w).alloc (aj _) (.cells #[.int .u8 1, .int .u8 3] 32)));have HF:=aa (fun w1 (hh:At w0 p ((pf,av p nm size g ks.length c f)::fs) s w1) w2 (hg:w1.grownBy w2 (some pf)) (hr:w2.heap[pf]? =some (av p nm size g ks.length c {f with at_:=[],same:=false,lost:=true,read:=false}))=>bc hh hf ht hg hr);have dK:=aa (fun w1 (hh:At w0 p ((pf,av p nm size g ks.length c {f with at_:=[],same:=false,lost:=true,read:=false})::fs) s w1)=>hO.2 w1 g (hh.get (af _ bq)));have Fw:(i:Int)<(ks.length:Nat):=by omega
 have AD:¬(i:Int)<0:=by omega
 have Kg:¬(ks.length:Int)≤(i:Nat):=by omega
 have oc:=hX.ks.key _ (X.aR hi);have hsize:=hX.ks.size;have hwr:wrap64 (((X.aF ks i).at_:Int)+((X.aF ks i).len:Int))=((X.aF ks i).at_:Int)+((X.aF ks i).len:Int):=IntWalk.wrap64_in _ (by omega);have hbl:(b.length:Int)<((X.aF ks i).at_:Int)+((X.aF ks i).len:Int):=by omega
 generalize(X.aF ks i).at_+(X.aF ks i).len=dummy at hb;clear hf bq hO ht hX oc hsize hb dummy;clear h hs;go_enter Tryz.func25,Tryz.ntmps25;go_wp2_with fail;refine bR.out.mono ?_;rintro e W1 ⟨rfl,hW1⟩;subst hW1;clear bR;refine aG (fun X=>At w0 p ((pf,av p nm size g ks.length c f)::fs) s X∧Below w.heap.size w X) ⟨HA.out,(ai _ w).alloc (aj _) _⟩ ?_;rintro W ⟨ha,kN⟩;clear HA;go_wp2_with fail;refine(kK (ha.get ae)).mono ?_;rintro e W2 ⟨⟨_,rfl⟩,hg,hr⟩;have ha2:=HF.out _ ha _ hg hr;have bB:Hid (w.heap.size≤W2.heap.size):=aa (au kN.size hg.size);clear hg hr HF ha kN;have hc:=fun j=>ag W2 pf j _ _ _ (ha2.get (ae:(pf,av p nm size g ks.length c {f with at_:=[],same:=false,lost:=true,read:=false})∈(pf,av p nm size g ks.length c {f with at_:=[],same:=false,lost:=true,read:=false})::fs));have bh:=dK.out _ ha2;have k1:=bh.at_ hi;have k2:=bh.len hi;have k3:=bh.dup hi;have dD:=aa ha2;have HZ:=aa (heap_alloc_new W2 dz);clear ha2 bh;go_wp2_with (refine wpList_store_row rfl _ _ 66 rfl W2.heap.size rfl _ rfl _ _ HZ.out rfl (by kernel_rfl) rfl ?_);intro W3 hrow hg hsz;obtain⟨kC,hb3⟩:=dD.out.stored dz hg;have hrow:W3.heap[W2.heap.size]? =some (aK (X.aF ks i)):=hrow;have bH:=aa kC;have cO:Hid (w.heap.size≤W3.heap.size):=aa (au bB.out hb3.size);clear hc k1 k2 k3 dD HZ hg hsz kC hb3 bB;have hcb:=fun j=>ag W3 W2.heap.size j _ _ _ hrow;go_wp2;go_ret2;exact⟨rfl,bH.out⟩
theorem BO (h:At w0 p ((pf,av p nm size g ks.length c f)::fs) s w) (hf:∀x∈fs,x.1≠pf) (bq:(g,ok)∈fs) (hO:bI ok ks) (ht:J.Two s) (hX:XF nm size ks rows ct s.now) (hs:X.cB [52,55] [1,3] f.mode=[48,48]) (i:Nat) (hi:i<ks.length) (A:Option Addr) (cb:Nat) (b:J.B) (gQ:Src w0 p fs (.slice A b.length cb) b) (hb:(X.aF ks i).at_+(X.aF ks i).len≤b.length) (hbl:b.length≤1000000) (eh:((X.bS ks i rows).find? fun r=>decide (X.val ks i r.b=X.val ks i b))=none):
  Calls Tryz.prog 25 #[.pointer (some ⟨pf,0,none⟩), .int .i64 (i:Nat), .slice A b.length cb] w fun e w'=>e= .returned (.tuple #[.slice none 0 0, .string ⟨#[50,51]⟩])∧At w0 p ((pf,av p nm size g ks.length c {f with at_:=[],same:=false,lost:=true,read:=false})::fs) s w':=by
 have hlt:=(ah (h.get ae)).1;have hlt:pf<w.heap.size:=hlt;have bR:=aa (aQ (h.get ae) [52,55] [1,3] 2 #[.int .u8 1, .int .u8 3] rfl rfl (by decide) w.heap.size rfl);rw[hs]at bR;have HA:=aa (h.below ((ai _ w).alloc (aj _) (.cells #[.int .u8 1, .int .u8 3] 32)));have HF:=aa (fun w1 (hh:At w0 p ((pf,av p nm size g ks.length c f)::fs) s w1) w2 (hg:w1.grownBy w2 (some pf)) (hr:w2.heap[pf]? =some (av p nm size g ks.length c {f with at_:=[],same:=false,lost:=true,read:=false}))=>bc hh hf ht hg hr);have dK:=aa (fun w1 (hh:At w0 p ((pf,av p nm size g ks.length c {f with at_:=[],same:=false,lost:=true,read:=false})::fs) s w1)=>hO.2 w1 g (hh.get (af _ bq)));have Fw:(i:Int)<(ks.length:Nat):=by omega
 have AD:¬(i:Int)<0:=by omega
 have Kg:¬(ks.length:Int)≤(i:Nat):=by omega
 have oc:=hX.ks.key _ (X.aR hi);have hsize:=hX.ks.size;have hwr:wrap64 (((X.aF ks i).at_:Int)+((X.aF ks i).len:Int))=((X.aF ks i).at_:Int)+((X.aF ks i).len:Int):=IntWalk.wrap64_in _ (by omega);have rr:(X.val ks i b).length=X.lens ks i:=by
  unfold X.val X.lens X.Ky.val;rw[List.length_take,List.length_drop];omega
 have hl2:=hX.lens hi;have hpl:=X.kt nm i;have lf:=hX.nm;have TL:¬(b.length:Int)<((X.aF ks i).at_:Int)+((X.aF ks i).len:Int):=by omega
 have HP:=aa (fun W=>aZ nm size (some ⟨g,0,none⟩) ks.length c i (by have:=hX.ks.one;omega) (by omega) W);have HV:=aa (fun w1 (hh:At w0 p ((pf,av p nm size g ks.length c {f with at_:=[],same:=false,lost:=true,read:=false})::fs) s w1)=>bD (X.aF ks i) (.slice A b.length cb) b bL w1 (gQ _ _ _ cM hh) hb hbl);have qs:=fun w1 (hh:At w0 p ((pf,av p nm size g ks.length c {f with at_:=[],same:=false,lost:=true,read:=false})::fs) s w1)=>iP hh ⟨(X.pre nm i++X.val ks i b).toArray⟩ (X.pre nm i++X.val ks i b) true (by have:=hX.many;omega);rw[hX.con.oJ hX.ks hX.rows (by have:=hX.ct;omega) hi rr,eh]at qs;have rq:=aa qs;have e1:=jF (X.pre nm i) (X.val ks i b);have hs1:(⟨(X.pre nm i).toArray⟩:ByteArray).size≤1000:=by rw[bu];omega
 have hs2:(⟨(X.val ks i b).toArray⟩:ByteArray).size≤1000:=by rw[bu];omega
 have hv0:(X.aF ks i).val b=X.val ks i b:=rfl;rw[hv0]at HV;generalize(⟨(X.pre nm i).toArray⟩:ByteArray)=P at HP hs1 e1;generalize(⟨(X.val ks i b).toArray⟩:ByteArray)=V at HV hs2 e1;generalize(⟨(X.pre nm i++X.val ks i b).toArray⟩:ByteArray)=PV at rq e1;clear hf bq hO ht hX oc hsize hb hbl gQ rr hl2 hpl lf qs eh hv0;clear h hs;go_enter Tryz.func25,Tryz.ntmps25;go_wp2_with fail;refine bR.out.mono ?_;rintro e W1 ⟨rfl,hW1⟩;subst hW1;clear bR;refine aG (fun X=>At w0 p ((pf,av p nm size g ks.length c f)::fs) s X∧Below w.heap.size w X) ⟨HA.out,(ai _ w).alloc (aj _) _⟩ ?_;rintro W ⟨ha,kN⟩;clear HA;go_wp2_with fail;refine(kK (ha.get ae)).mono ?_;rintro e W2 ⟨⟨_,rfl⟩,hg,hr⟩;have ha2:=HF.out _ ha _ hg hr;have bB:Hid (w.heap.size≤W2.heap.size):=aa (au kN.size hg.size);clear hg hr HF ha kN;have hc:=fun j=>ag W2 pf j _ _ _ (ha2.get (ae:(pf,av p nm size g ks.length c {f with at_:=[],same:=false,lost:=true,read:=false})∈(pf,av p nm size g ks.length c {f with at_:=[],same:=false,lost:=true,read:=false})::fs));have bh:=dK.out _ ha2;have k1:=bh.at_ hi;have k2:=bh.len hi;have k3:=bh.dup hi;have dD:=aa ha2;have HZ:=aa (heap_alloc_new W2 dz);clear ha2 bh;go_wp2_with (refine wpList_store_row rfl _ _ 66 rfl W2.heap.size rfl _ rfl _ _ HZ.out rfl (by kernel_rfl) rfl ?_);intro W3 hrow hg hsz;obtain⟨kC,hb3⟩:=dD.out.stored dz hg;have hrow:W3.heap[W2.heap.size]? =some (aK (X.aF ks i)):=hrow;have bH:=aa kC;have cO:Hid (w.heap.size≤W3.heap.size):=aa (au bB.out hb3.size);clear hc k1 k2 k3 dD HZ hg hsz kC hb3 bB;have hcb:=fun j=>ag W3 W2.heap.size j _ _ _ hrow;go_wp2_with fail;clear hcb TL hwr;refine aA 8 (.rd 0 (.rd 1 (.rd 2 (.rd 3 (.rd 4 (.rd 6 (.rd 7 (.wr 5 .fin)))))))) (fun w'=>At w0 p ((pf,av p nm size g ks.length c {f with at_:=[],same:=false,lost:=true,read:=false})::fs) s w'∧w'.heap[W2.heap.size]? =some (aK (X.aF ks i))) (by kernel_rfl) (by kernel_rfl) (fun c a d v w h=>by cases d<;>exact h) ⟨bH.out.below ((ai _ _).drew),hrow⟩ ?_;repeat
  refine aw (v:= ?_) (by rfl) (by rfl) (fun w' hS=> ?_) (fun K hK=> ?_);rotate_left
  ·have hc:=fun j=>ag w' pf j _ _ _ (hS.1.get (ae:(pf,av p nm size g ks.length c {f with at_:=[],same:=false,lost:=true,read:=false})∈(pf,av p nm size g ks.length c {f with at_:=[],same:=false,lost:=true,read:=false})::fs));have hcb:=fun j=>ag w' W2.heap.size j _ _ _ hS.2;clear hS;go_simp;try with_reducible rfl
  go_simp;refine hK _ ?_;clear hK K
 refine wpPm_write (by rfl) (fun K hK=> ?_);go_simp;refine(HP.out _).mono ?_;rintro e W4 ⟨rfl,hb⟩;have hb:Below W3.heap.size W3 W4:=((ai _ W3).drew).trans hb;have bG:=aa (bH.out.below hb);have jV:Hid (w.heap.size≤W4.heap.size):=aa (au cO.out hb.size);have hrow4:=(hb.block W2.heap.size (ah hrow).1).trans hrow;refine hK.out _ _ (fun w'=>At w0 p ((pf,av p nm size g ks.length c {f with at_:=[],same:=false,lost:=true,read:=false})::fs) s w'∧w'.heap[W2.heap.size]? =some (aK (X.aF ks i))) (fun _ h=>h) ⟨bG.out,hrow4⟩ ?_;clear hK K;clear hb hrow HP cO bH hrow4;show wpList _ _ _ _ _ _;go_wp2_with fail;refine(HV.out _ bG.out).mono ?_;rintro e W5 ⟨rfl,hb⟩;have cI:=aa (bG.out.below hb);have jX:Hid (w.heap.size≤W5.heap.size):=aa (au jV.out hb.size);clear hb HV bG jV;have hc:=fun j=>ag W5 pf j _ _ _ (cI.out.get (ae:(pf,av p nm size g ks.length c {f with at_:=[],same:=false,lost:=true,read:=false})∈(pf,av p nm size g ks.length c {f with at_:=[],same:=false,lost:=true,read:=false})::fs));go_wp2_with fail;refine(rq.out _ cI.out).mono ?_;rintro e W6 ⟨rfl,hb⟩;have bK:=aa (cI.out.below hb);have nL:Hid (w.heap.size≤W6.heap.size):=aa (au jX.out hb.size);clear hb hc rq cI jX;go_wp2;go_ret2;exact⟨rfl,bK.out⟩
theorem BP (h:At w0 p ((pf,av p nm size g ks.length c f)::fs) s w) (hf:∀x∈fs,x.1≠pf) (bq:(g,ok)∈fs) (hO:bI ok ks) (ht:J.Two s) (hX:XF nm size ks rows ct s.now) (hs:X.cB [52,55] [1,3] f.mode=[48,48]) (i:Nat) (hi:i<ks.length) (A:Option Addr) (cb:Nat) (b:J.B) (gQ:Src w0 p fs (.slice A b.length cb) b) (hb:(X.aF ks i).at_+(X.aF ks i).len≤b.length) (hbl:b.length≤1000000) (r:X.Row) (eh:((X.bS ks i rows).find? fun r=>decide (X.val ks i r.b=X.val ks i b))=some r):
  Calls Tryz.prog 25 #[.pointer (some ⟨pf,0,none⟩), .int .i64 (i:Nat), .slice A b.length cb] w fun e w'=>∃v,e= .returned (.tuple #[v, .string ⟨(kQ ks rows i r).toArray⟩])∧cE w' (· <w.heap.size) v r.b∧At w0 p ((pf,av p nm size g ks.length c {f with key:=i,at_:=X.aJ nm ks i r,same:=false,lost:=false,last:=X.val ks 0 r.b,read:=true})::fs) s w':=by
 have hlt:=(ah (h.get ae)).1;have hlt:pf<w.heap.size:=hlt;have bR:=aa (aQ (h.get ae) [52,55] [1,3] 2 #[.int .u8 1, .int .u8 3] rfl rfl (by decide) w.heap.size rfl);rw[hs]at bR;have HA:=aa (h.below ((ai _ w).alloc (aj _) (.cells #[.int .u8 1, .int .u8 3] 32)));have HF:=aa (fun w1 (hh:At w0 p ((pf,av p nm size g ks.length c f)::fs) s w1) w2 (hg:w1.grownBy w2 (some pf)) (hr:w2.heap[pf]? =some (av p nm size g ks.length c {f with at_:=[],same:=false,lost:=true,read:=false}))=>bc hh hf ht hg hr);have dK:=aa (fun w1 (hh:At w0 p ((pf,av p nm size g ks.length c {f with at_:=[],same:=false,lost:=true,read:=false})::fs) s w1)=>hO.2 w1 g (hh.get (af _ bq)));have Fw:(i:Int)<(ks.length:Nat):=by omega
 have AD:¬(i:Int)<0:=by omega
 have Kg:¬(ks.length:Int)≤(i:Nat):=by omega
 have oc:=hX.ks.key _ (X.aR hi);have hsize:=hX.ks.size;have hwr:wrap64 (((X.aF ks i).at_:Int)+((X.aF ks i).len:Int))=((X.aF ks i).at_:Int)+((X.aF ks i).len:Int):=IntWalk.wrap64_in _ (by omega);have rr:(X.val ks i b).length=X.lens ks i:=by
  unfold X.val X.lens X.Ky.val;rw[List.length_take,List.length_drop];omega
 have hl2:=hX.lens hi;have hpl:=X.kt nm i;have lf:=hX.nm;have TL:¬(b.length:Int)<((X.aF ks i).at_:Int)+((X.aF ks i).len:Int):=by omega
 have HP:=aa (fun W=>aZ nm size (some ⟨g,0,none⟩) ks.length c i (by have:=hX.ks.one;omega) (by omega) W);have HV:=aa (fun w1 (hh:At w0 p ((pf,av p nm size g ks.length c {f with at_:=[],same:=false,lost:=true,read:=false})::fs) s w1)=>bD (X.aF ks i) (.slice A b.length cb) b bL w1 (gQ _ _ _ cM hh) hb hbl);have qs:=fun w1 (hh:At w0 p ((pf,av p nm size g ks.length c {f with at_:=[],same:=false,lost:=true,read:=false})::fs) s w1)=>iP hh ⟨(X.pre nm i++X.val ks i b).toArray⟩ (X.pre nm i++X.val ks i b) true (by have:=hX.many;omega);rw[hX.con.oJ hX.ks hX.rows (by have:=hX.ct;omega) hi rr,eh]at qs;have rq:=aa qs;have e1:=jF (X.pre nm i) (X.val ks i b);have hs1:(⟨(X.pre nm i).toArray⟩:ByteArray).size≤1000:=by rw[bu];omega
 have hs2:(⟨(X.val ks i b).toArray⟩:ByteArray).size≤1000:=by rw[bu];omega
 have hv0:(X.aF ks i).val b=X.val ks i b:=rfl;rw[hv0]at HV;have V8:r∈rows:=(X.bm ks i r rows).1 (X.cR eh).1;have V9:=aa (fun w1 (hh:At w0 p ((pf,av p nm size g ks.length c {f with at_:=[],same:=false,lost:=true,read:=false})::fs) s w1) w2 (hg:w1.grownBy w2 (some pf)) (hr:w2.heap[pf]? =some (av p nm size g ks.length c {f with key:=i,at_:=[],same:=false,lost:=true,read:=false}))=>bc hh hf ht hg hr);have vh:=aa (fun w1 (hh:At w0 p ((pf,av p nm size g ks.length c {f with key:=i,at_:=[],same:=false,lost:=true,read:=false})::fs) s w1)=>wh hh hf bq hO ht hX hi r V8);generalize kQ ks rows i r=st at vh⊢;clear V8;generalize(⟨(X.pre nm i).toArray⟩:ByteArray)=P at HP hs1 e1;generalize(⟨(X.val ks i b).toArray⟩:ByteArray)=V at HV hs2 e1;generalize(⟨(X.pre nm i++X.val ks i b).toArray⟩:ByteArray)=PV at rq e1;clear hf bq hO ht hX oc hsize hb hbl gQ rr hl2 hpl lf qs eh hv0;clear h hs;go_enter Tryz.func25,Tryz.ntmps25;go_wp2_with fail;refine bR.out.mono ?_;rintro e W1 ⟨rfl,hW1⟩;subst hW1;clear bR;refine aG (fun X=>At w0 p ((pf,av p nm size g ks.length c f)::fs) s X∧Below w.heap.size w X) ⟨HA.out,(ai _ w).alloc (aj _) _⟩ ?_;rintro W ⟨ha,kN⟩;clear HA;go_wp2_with fail;refine(kK (ha.get ae)).mono ?_;rintro e W2 ⟨⟨_,rfl⟩,hg,hr⟩;have ha2:=HF.out _ ha _ hg hr;have bB:Hid (w.heap.size≤W2.heap.size):=aa (au kN.size hg.size);clear hg hr HF ha kN;have hc:=fun j=>ag W2 pf j _ _ _ (ha2.get (ae:(pf,av p nm size g ks.length c {f with at_:=[],same:=false,lost:=true,read:=false})∈(pf,av p nm size g ks.length c {f with at_:=[],same:=false,lost:=true,read:=false})::fs));have bh:=dK.out _ ha2;have k1:=bh.at_ hi;have k2:=bh.len hi;have k3:=bh.dup hi;have dD:=aa ha2;have HZ:=aa (heap_alloc_new W2 dz);clear ha2 bh;go_wp2_with (refine wpList_store_row rfl _ _ 66 rfl W2.heap.size rfl _ rfl _ _ HZ.out rfl (by kernel_rfl) rfl ?_);intro W3 hrow hg hsz;obtain⟨kC,hb3⟩:=dD.out.stored dz hg;have hrow:W3.heap[W2.heap.size]? =some (aK (X.aF ks i)):=hrow;have bH:=aa kC;have cO:Hid (w.heap.size≤W3.heap.size):=aa (au bB.out hb3.size);clear hc k1 k2 k3 dD HZ hg hsz kC hb3 bB;have hcb:=fun j=>ag W3 W2.heap.size j _ _ _ hrow;go_wp2_with fail;clear hcb TL hwr;refine aA 8 (.rd 0 (.rd 1 (.rd 2 (.rd 3 (.rd 4 (.rd 6 (.rd 7 (.wr 5 .fin)))))))) (fun w'=>At w0 p ((pf,av p nm size g ks.length c {f with at_:=[],same:=false,lost:=true,read:=false})::fs) s w'∧w'.heap[W2.heap.size]? =some (aK (X.aF ks i))) (by kernel_rfl) (by kernel_rfl) (fun c a d v w h=>by cases d<;>exact h) ⟨bH.out.below ((ai _ _).drew),hrow⟩ ?_;repeat
  refine aw (v:= ?_) (by rfl) (by rfl) (fun w' hS=> ?_) (fun K hK=> ?_);rotate_left
  ·have hc:=fun j=>ag w' pf j _ _ _ (hS.1.get (ae:(pf,av p nm size g ks.length c {f with at_:=[],same:=false,lost:=true,read:=false})∈(pf,av p nm size g ks.length c {f with at_:=[],same:=false,lost:=true,read:=false})::fs));have hcb:=fun j=>ag w' W2.heap.size j _ _ _ hS.2;clear hS;go_simp;try with_reducible rfl
  go_simp;refine hK _ ?_;clear hK K
 refine wpPm_write (by rfl) (fun K hK=> ?_);go_simp;refine(HP.out _).mono ?_;rintro e W4 ⟨rfl,hb⟩;have hb:Below W3.heap.size W3 W4:=((ai _ W3).drew).trans hb;have bG:=aa (bH.out.below hb);have jV:Hid (w.heap.size≤W4.heap.size):=aa (au cO.out hb.size);have hrow4:=(hb.block W2.heap.size (ah hrow).1).trans hrow;refine hK.out _ _ (fun w'=>At w0 p ((pf,av p nm size g ks.length c {f with at_:=[],same:=false,lost:=true,read:=false})::fs) s w'∧w'.heap[W2.heap.size]? =some (aK (X.aF ks i))) (fun _ h=>h) ⟨bG.out,hrow4⟩ ?_;clear hK K;clear hb hrow HP cO bH hrow4;show wpList _ _ _ _ _ _;go_wp2_with fail;refine(HV.out _ bG.out).mono ?_;rintro e W5 ⟨rfl,hb⟩;have cI:=aa (bG.out.below hb);have jX:Hid (w.heap.size≤W5.heap.size):=aa (au jV.out hb.size);clear hb HV bG jV;have hc:=fun j=>ag W5 pf j _ _ _ (cI.out.get (ae:(pf,av p nm size g ks.length c {f with at_:=[],same:=false,lost:=true,read:=false})∈(pf,av p nm size g ks.length c {f with at_:=[],same:=false,lost:=true,read:=false})::fs));go_wp2_with fail;refine(rq.out _ cI.out).mono ?_;rintro e W6 ⟨rfl,hb⟩;have bK:=aa (cI.out.below hb);have nL:Hid (w.heap.size≤W6.heap.size):=aa (au jX.out hb.size);clear hb hc rq cI jX;have h6:W6.heap[pf]? =some (av p nm size g ks.length c {f with at_:=[],same:=false,lost:=true,read:=false}):=bK.out.get ae;have hz:=az h6;have hc:=fun j=>ag W6 pf j _ _ _ h6;have bz:=aa (V9.out _ bK.out _ (ay (World.grownBy.refl W6 (some pf)) 6 (.int .i64 (i:Nat))) (aC h6 6 (.int .i64 (i:Nat))));clear h6 V9 bK;go_wp2_with fail;refine(vh.out _ bz.out).mono ?_;rintro e W8 ⟨v,rfl,Bw,xi⟩;have jd:=aa xi;have Eh:=aa (Bw.weak (M':=(· <w.heap.size)) (fun k hk=>aq hk (by simpa [World.setCell] using nL.out)));clear Bw xi vh hc hz;go_wp2;go_ret2;exact⟨_,rfl,Eh.out,jd.out⟩
end
end Go.Proofs.YtipljcmmokaokaaGreat
namespace Go.Proofs.YtipljcmmokaokaaGreat
open Go.RowKit Go.Lib Go.Maps Go.WideMaps Go.Sort
namespace X
theorem um {α:Type} [DecidableEq α]:∀(l m:List α),l.Nodup→(∀x∈l,x∈m)→l.length≤m.length
 |[],_,_,_=>Nat.zero_le _
 |a::t,m,h,hs=>by
  obtain⟨h1,h2⟩:=List.nodup_cons.1 h;have ha:=hs a ae;have:=um t (m.erase a) h2 (fun x hx=>(List.mem_erase_of_ne (fun(e:x=a)=>h1 (by rw[←e];exact hx))).2 (hs x (af _ hx)));rw[List.length_erase_of_mem ha]at this;have:0<m.length:=List.length_pos_of_mem ha;rw[List.length_cons];omega
def ni (nm:B) (ks:List Ky) (rows:List Row) (c:Nat):List B:=own nm::((if 0<c then [cK nm]else [])++(List.range ks.length).flatMap fun i=>rows.map (aJ nm ks i))
theorem zf (nm:B) (ks:List Ky) (rows:List Row) (c:Nat):(ni nm ks rows c).length=1+(if 0<c then 1 else 0)+ks.length*rows.length:=by
 have h:∀l:List Nat,(l.flatMap fun i=>rows.map (aJ nm ks i)).length=l.length*rows.length:=fun l=>by
  induction l with
  |nil=>simp
  |cons a t ih=>rw[List.flatMap_cons,List.length_append,ih,List.length_map,List.length_cons,Nat.succ_mul];omega
 unfold ni;rw[List.length_cons,List.length_append,h,List.length_range];split<;>simp<;>omega
section
variable {ks : List Ky} {size time : Nat} {rows : List Row} {nm a : B} {c : Nat} {now : List (B × B)}
theorem rW {k:B}:k∈ni nm ks rows c↔k=X.own nm∨(0<c∧k=cK nm)∨∃i,i<ks.length∧∃r∈rows,k=aJ nm ks i r:=by
 unfold ni;rw[List.mem_cons,List.mem_append,List.mem_flatMap];have h1:k∈(if 0<c then [cK nm]else [])↔0<c∧k=cK nm:=by
  split
  ·rename_i h;simp[h]
  ·rename_i h;simp[h]
 rw[h1];constructor
 ·rintro(h|h|⟨i,hi,hk⟩)
  ·exact .inl h
  ·exact .inr (.inl h)
  ·obtain⟨r,hr,e⟩:=List.mem_map.1 hk;exact .inr (.inr ⟨i,List.mem_range.1 hi,r,hr,e.symm⟩)
 ·rintro(h|h|⟨i,hi,r,hr,e⟩)
  ·exact .inl h
  ·exact .inr (.inl h)
  ·exact .inr (.inr ⟨i,List.mem_range.2 hi,List.mem_map.2 ⟨r,hr,e.symm⟩⟩)
theorem ln.mem_keys (h:ln nm a ks rows c now) (hr:aS ks size time rows) (ht:time<4294967296) (hk:1≤ks.length) (k:B):J.look now k≠none↔k∈ni nm ks rows c:=by
 rw[rW];constructor
 ·intro hn;rcases h.oth k hn with e|e|⟨p,e⟩|⟨i,p,t,h1,h2,h3,e⟩
  ·exact .inl e
  ·refine .inr (.inl ⟨?_,e⟩);subst e;rw[h.tim]at hn;by_cases hc:0<c
   ·exact hc
   ·rw[if_neg hc]at hn;exact absurd rfl hn
  ·subst e;cases hl:J.look now (bP nm 0 p 0)with
   |none=>exact absurd hl hn
   |some v=>
    obtain⟨r,hr1,e1,_⟩:=(h.pri p v).1 hl;refine .inr (.inr ⟨0,by omega,r,hr1, ?_⟩);unfold aJ;rw[e1,hr.t0 r hr1]
  ·subst e;cases hl:J.look now (bP nm i p t)with
   |none=>exact absurd hl hn
   |some v=>
    obtain⟨r,hr1,e1,e2,_⟩:=(h.alt i p t v h1 h2 h3).1 hl;refine .inr (.inr ⟨i,h2,r,hr1, ?_⟩);unfold aJ;rw[e1,e2]
 ·rintro(e|⟨hc,e⟩|⟨i,hi,r,hr1,e⟩)
  ·subst e;rw[h.own];intro e;cases e
  ·subst e;rw[h.tim,if_pos hc];intro e;cases e
  ·subst e;exact h.yi hr ht hi hr1
theorem vw (hr:aS ks size time rows) (ht:time<4294967296) (hk:ks.length≤256):(ni nm ks rows c).Nodup:=by
 have h2:∀k∈(List.range ks.length).flatMap (fun i=>rows.map (aJ nm ks i)),∃i r,k=aJ nm ks i r:=fun k hk=>by
  obtain⟨i,_,hi⟩:=List.mem_flatMap.1 hk;obtain⟨r,_,e⟩:=List.mem_map.1 hi;exact⟨i,r,e.symm⟩
 unfold ni;refine List.nodup_cons.2 ⟨fun hm=> ?_,List.nodup_append.2 ⟨by split<;>simp, ?_,fun x hx y hy e=> ?_⟩⟩
 ·rcases List.mem_append.1 hm with h|h
  ·split at h
   ·simp only[List.mem_singleton]at h;exact tA nm h
   ·cases h
  ·obtain⟨i,r,e⟩:=h2 _ h;exact iZ nm _ _ _ e
 ·refine List.pairwise_flatMap.2 ⟨fun i hi=> ?_, ?_⟩
  ·rw[List.pairwise_map];have C4:=List.mem_range.1 hi;refine List.Pairwise.imp_of_mem (fun {x y} hx hy DB=> ?_) (hr.yh C4);intro e;obtain⟨_,e1,e2⟩:=oC (by omega) (by omega) (hr.t32 ht hx C4) (hr.t32 ht hy C4) (fun e=>by subst e;exact hr.t0 x hx) (fun e=>by subst e;exact hr.t0 y hy) e;rcases DB with h|h
   ·exact h e1
   ·exact h e2
  ·refine List.Pairwise.imp_of_mem (fun {i j} hi hj qY=> ?_) (List.nodup_range (n:=ks.length));intro x hx y hy e;obtain⟨r,hr1,rfl⟩:=List.mem_map.1 hx;obtain⟨q,Pu,rfl⟩:=List.mem_map.1 hy;have h1:=List.mem_range.1 hi;have h2:=List.mem_range.1 hj;exact qY (mV (by omega) (by omega) e)
 ·split at hx
  ·simp only[List.mem_singleton]at hx;subst hx;obtain⟨i,r,e2⟩:=h2 y hy;exact ll nm _ _ _ (e.trans e2)
  ·cases hx
theorem Ek {m:List (B×B)} (h:J.qR m):(m.map (·.1)).Nodup:=by
 refine List.pairwise_map.2 (List.Pairwise.imp (fun {x y} DB e=> ?_) h);rw[e]at DB;exact List.lt_irrefl _ DB
theorem nj {m:List (B×B)} (h:J.qR m) (k:B):k∈m.map (·.1)↔J.look m k≠none:=by
 constructor
 ·intro hk;obtain⟨⟨k',v⟩,hm,rfl⟩:=List.mem_map.1 hk;rw[J.ic m k' v h hm];intro e;cases e
 ·intro hn;cases hl:J.look m k with
  |none=>exact absurd hl hn
  |some v=>exact List.mem_map.2 ⟨_,J.gz m k v hl,rfl⟩
theorem ln.count (h:ln nm a ks rows c now) (hr:aS ks size time rows) (ht:time<4294967296) (h1:1≤ks.length) (hk:ks.length≤256):now.length=1+(if 0<c then 1 else 0)+ks.length*rows.length:=by
 rw[←zf nm ks rows c];have e:now.length=(now.map (·.1)).length:=(List.length_map ..).symm;rw[e];refine Nat.le_antisymm (um _ _ (Ek h.asc) (fun x hx=>(h.mem_keys hr ht h1 x).1 ((nj h.asc x).1 hx))) (um _ _ (vw hr ht hk) (fun x hx=>(nj h.asc x).2 ((h.mem_keys hr ht h1 x).2 hx)))
theorem ln.CO (h:ln nm a ks rows c now) (hr:aS ks size time rows) (hk:fQ ks size) {n:Nat} (hn:∀i,i<ks.length→lens ks i≤n) {k:B} (hm:k∈now.map (·.1)) (ht:time<4294967296):k.length≤nm.length+n+7:=by
 rcases rW.1 ((h.mem_keys hr ht hk.one.1 k).1 ((nj h.asc k).1 hm))with e|⟨_,e⟩|⟨i,hi,r,hr1,e⟩
 ·subst e;rw[kW];omega
 ·subst e;rw[px];omega
 ·subst e;have h1:=b9 nm i (val ks i r.b) (r.t i);have h2:=aP (hr.fit r hr1) hi;have h3:=hn i hi;show(bP nm i _ _).length≤_;omega
end
end X
namespace X
section
variable {ks : List Ky} {size time : Nat} {rows : List Row} {nm a : B} {c n : Nat} {now : List (B × B)} {P : B → B → Prop} {E : Nat → B → Nat → B → Prop}
theorem ru (h:iM nm a ks.length c (lens ks) P E now) {i:Nat} (h0:i≠0) (hi:i<ks.length) (hE:∀p t q,E i p t q↔Ee ks rows i p t q) (hr:aS ks size time rows) (ht:time<4294967296) {r:Row} (hm:r∈rows):J.look now (aJ nm ks i r)=some (val ks 0 r.b):=
 (h.alt i (val ks i r.b) (r.t i) (val ks 0 r.b) (by omega) hi (hr.t32 ht hm hi)).2 ((hE _ _ _).2 ⟨r,hm,rfl,rfl,rfl,hi⟩)
theorem El (h:iM nm a ks.length c (lens ks) P E now) (hk:ks.length≤256) {i:Nat} (h0:i≠0) (hi:i<ks.length) (hE:∀p t q,E i p t q↔Ee ks rows i p t q) (hr:aS ks size time rows) (hc:time<4294967296) (v:B) (hv:v.length=lens ks i):
  keysOf now ⟨(pre nm i++v).toArray⟩=((bS ks i rows).filter fun r=>decide (val ks i r.b=v)).map (aJ nm ks i):=by
 unfold keysOf;rw[qi];refine mU _ _ (List.Pairwise.filter _ (List.pairwise_map.2 h.asc)) ?_ (fun k=> ?_)
 ·rw[List.pairwise_map];refine List.Pairwise.imp_of_mem (fun {x y} hx hy DB=> ?_) (List.Pairwise.filter _ (mX ks i rows (hr.yh hi)));exact(wN hr hc hi ((bm ks i x rows).1 (List.mem_filter.1 hx).1) ((bm ks i y rows).1 (List.mem_filter.1 hy).1)).2 DB
 ·rw[List.mem_filter];constructor
  ·rintro⟨jB,hk2⟩;refine List.mem_map.2 ?_;obtain⟨⟨k',x⟩,hm,rfl⟩:=List.mem_map.1 jB;have hk2:Lib.hasPrefix k' (pre nm i++v)=true:=hk2;have hlk:=J.ic now k' x h.asc hm;rcases h.oth k' (by rw[hlk];intro e;cases e)with rfl|rfl|⟨p,rfl⟩|⟨j',p,t,j1,j2,Fo,rfl⟩
   ·rw[py]at hk2;cases hk2
   ·rw[tB]at hk2;cases hk2
   ·rw[iE (by omega) (by decide) (by omega)]at hk2;cases hk2
   ·by_cases qY:i=j'
    ·subst qY;have h9:=(hE _ _ _).1 ((h.alt i p t x j1 j2 Fo).1 hlk);obtain⟨r,jZ,e1,e2,e3,_⟩:=h9;have hl:p.length=lens ks i:=(by rw[←e1,aP (hr.fit r jZ) hi]);rw[dH (by omega),hv,←hl,List.take_length]at hk2;refine⟨r,List.mem_filter.2 ⟨(bm ks i r rows).2 jZ,by rw[e1];exact hk2⟩, ?_⟩;show bP nm i (val ks i r.b) (r.t i)=_;rw[e1,e2]
    ·rw[iE (by omega) (by omega) qY]at hk2;cases hk2
  ·intro JK;obtain⟨r,MW,rfl⟩:=List.mem_map.1 JK;obtain⟨jZ,hd⟩:=List.mem_filter.1 MW;have jZ:=(bm ks i r rows).1 jZ;have hl:(val ks i r.b).length=lens ks i:=aP (hr.fit r jZ) hi;refine⟨List.mem_map.2 ⟨_,J.gz now _ _ (ru h h0 hi hE hr hc jZ),rfl⟩, ?_⟩;show Lib.hasPrefix (bP nm i _ _) _=true;rw[dH (by omega),hv,←hl,List.take_length];exact hd
def He (nm a:B) (ks:List Ky) (c:Nat) (rows:List Row) (p0:B) (j:Nat) (now:List (B×B)):Prop:=
 iM nm a ks.length c (lens ks) (Pp ks (lz ks rows p0)) (fun i p t q=>if i≤j then Ee ks (lz ks rows p0) i p t q else Ee ks rows i p t q) now
theorem Kn (hr:aS ks size time rows) {p0:B} {o:Row} (ho:o∈rows) (hp:val ks 0 o.b=p0) {i:Nat} (h1:1≤i) (hi:i<ks.length) (p:B) (t:Nat) (q:B):
  Ee ks (lz ks rows p0) i p t q↔¬(p=val ks i o.b∧t=o.t i)∧Ee ks rows i p t q:=by
 constructor
 ·rintro⟨r,hm,e1,e2,e3,_⟩;obtain⟨h3,h4⟩:=lg.1 hm;refine⟨fun hh=> ?_,r,h3,e1,e2,e3,hi⟩;have:r=o:=GZ (hr.tm i h1 hi) h3 ho (e2.trans hh.2);subst this;exact h4 hp
 ·rintro⟨h5,r,h3,e1,e2,e3,_⟩;refine⟨r,lg.2 ⟨h3,fun e=> ?_⟩,e1,e2,e3,hi⟩;have:r=o:=qj hr.prim h3 ho (e.trans hp.symm);subst this;exact h5 ⟨e1.symm,e2.symm⟩
theorem rX (hr:aS ks size time rows) {p0:B} {j:Nat}:∀i p t q,(if i≤j then Ee ks (lz ks rows p0) i p t q else Ee ks rows i p t q)→p.length=lens ks i:=fun i p t q hh=>by
 split at hh
 ·obtain⟨r,h1,rfl,_,_,hi⟩:=hh;exact aP (hr.fit r (lg.1 h1).1) hi
 ·exact BB hr hh
theorem BQ (h:ln nm a ks rows c now) (hk:fQ ks size) (hr:aS ks size c rows) (p0:B):He nm a ks c rows p0 0 (J.del now (bP nm 0 p0 0)):=by
 refine(iM.F5 h (by have:=hk.one;omega) p0).same (fun p v=> ?_) (fun i p t q k1 k2=>by rw[if_neg (by omega)]) (rX hr);constructor
 ·rintro⟨r,hm,e1,e2⟩;obtain⟨h3,h4⟩:=lg.1 hm;exact⟨by rw[←e1];exact h4,r,h3,e1,e2⟩
 ·rintro⟨h4,r,h3,e1,e2⟩;exact⟨r,lg.2 ⟨h3,by rw[e1];exact h4⟩,e1,e2⟩
theorem Em (hk:fQ ks size) (hr:aS ks size c rows) (hc:c<4294967296) {p0:B} {o:Row} (ho:o∈rows) (hp:val ks 0 o.b=p0) {j:Nat} (hj:j+1<ks.length) (h:He nm a ks c rows p0 j now):He nm a ks c rows p0 (j+1) (J.del now (aJ nm ks (j+1) o)):=by
 refine(iM.CQ h (by have:=hk.one;omega) (i0:=j+1) ⟨by omega,hj⟩ (val ks (j+1) o.b) (t0:=o.t (j+1)) (hr.t32 hc ho hj)).same (fun _ _=>Iff.rfl) (fun i p t q k1 k2=> ?_) (rX hr);by_cases e:i=j+1
 ·subst e;rw[if_pos (Nat.le_refl _),if_neg (by omega),Kn hr ho hp k1 k2];exact⟨fun hh=>⟨fun x=>hh.1 ⟨x.2.1,x.2.2⟩,hh.2⟩,fun hh=>⟨fun x=>hh.1 ⟨rfl,x.1,x.2⟩,hh.2⟩⟩
 ·by_cases e2:i≤j
  ·rw[if_pos e2,if_pos (by omega)];exact⟨fun hh=>⟨fun x=>e x.1,hh⟩,fun hh=>hh.2⟩
  ·rw[if_neg e2,if_neg (by omega)];exact⟨fun hh=>⟨fun x=>e x.1,hh⟩,fun hh=>hh.2⟩
theorem Hf {p0:B} {j:Nat} (hj:ks.length≤j+1) (hr:aS ks size c rows) (h:He nm a ks c rows p0 j now):ln nm a ks (lz ks rows p0) c now:=by
 refine iM.same h (fun _ _=>Iff.rfl) (fun i p t q k1 k2=>by rw[if_pos (by omega)]) (fun i p t q hh=> ?_);obtain⟨r,h1,rfl,_,_,hi⟩:=hh;exact aP (hr.fit r (lg.1 h1).1) hi
end
end X
namespace R
theorem mW (p:B) (x y:B):(p++x).isPrefixOf (p++y)=x.isPrefixOf y:=by
 induction p with
 |nil=>rfl
 |cons a p ih=>simp only[List.cons_append,List.isPrefixOf,ih,beq_self_eq_true,Bool.true_and]
theorem C5 (nm:B) (x:B):Lib.hasPrefix (nm++0::x) (nm++[0])=true:=by
 unfold Lib.hasPrefix;rw[mW];rfl
theorem ub (nm a:B) (rows:Rows):keysOf (Pr nm (some a) rows) ⟨(nm++[0]).toArray⟩=own nm::rows.map fun r=>key nm r.1:=by
 unfold keysOf Pr;have e:(⟨(nm++[0]).toArray⟩:ByteArray).data.toList=nm++[0]:=rfl;rw[e,List.map_cons,List.map_map];rw[List.filter_eq_self.2 (fun k hk=>by
  rcases List.mem_cons.1 hk with rfl|hk
  ·exact C5 nm [65]
  ·obtain⟨r,_,rfl⟩:=List.mem_map.1 hk;show Lib.hasPrefix (key nm r.1) _=true;unfold key recs;rw[List.append_assoc];exact C5 nm (82::bF r.1))]
 rfl
end R
end Go.Proofs.YtipljcmmokaokaaGreat
namespace Go.Proofs.YtipljcmmokaokaaGreat
open Go.RowKit Go.Lib Go.Maps Go.WideMaps Go.Sort
set_option maxRecDepth 100000
abbrev qO (n:Nat):Value:= .int .i64 (n:Nat)
theorem Tryz.Ny:(Tryz.prog.info? 52).map (fun i=>(i.zero,i.size,i.bytes))=some (some (.agg #[.string ⟨#[]⟩, .slice none 0 0]),2,40):=by kernel_rfl
abbrev HP:=X.Row×Value
def bp (l:List HP):List Value:=l.flatMap fun p=>[encStr p.1.b,p.2]
theorem rY (l:List HP):(bp l).length=l.length*2:=by induction l with|nil=>rfl|cons a t ih=>simp[bp]at*;omega
theorem rZ (a b:List HP):bp (a++b)=bp a++bp b:=by simp[bp]
theorem lQ:∀(l:List HP) (k:Nat) (h:k<l.length),(bp l)[k*2]? =some (encStr l[k].1.b)∧(bp l)[k*2+1]? =some l[k].2
 |[],k,h=>by simp at h
 |a::t,0,h=>⟨rfl,rfl⟩
 |a::t,k+1,h=>by
  have:=lQ t k (by simpa using h);rw[show(k+1)*2=k*2+2 by omega]
  simpa [bp] using this
def pk (v:Value):Prop:=∃A n c,v= .slice A n c
theorem zg (l:List HP) (h:∀x∈l,pk x.2):∀u∈bp l,u.oneCell'=true:=by
 intro u hu;simp only[bp,List.mem_flatMap,List.mem_cons,List.not_mem_nil,or_false]at hu;obtain⟨p,hp,rfl|rfl⟩:=hu
 ·rfl
 ·obtain⟨A,n,c,e⟩:=h p hp;rw[e];rfl
theorem xj (l:List HP) (i:Nat):bp (l.drop i)=(bp l).drop (i*2):=by
 induction i generalizing l with
 |zero=>simp
 |succ i ih=>
  cases l with
  |nil=>simp[bp]
  |cons a t=>rw[List.drop_succ_cons,ih,show(i+1)*2=i*2+2 by omega];simp[bp]
def nk (w:World) (M:Nat→Prop) (v:Value) (ts:List Nat):Prop:=∃g c,v= .slice (some ⟨g,0,none⟩) ts.length c∧g<w.heap.size∧¬M g∧∀j (h:j<ts.length),w.cell? ⟨g,j,none⟩=some (qO ts[j])
def nM (w:World) (A:Option Addr) (l:List HP):Prop:=0<l.length→∃g o,A=some ⟨g,o,none⟩∧g<w.heap.size∧∀j u,(bp l)[j]? =some u→w.cell? ⟨g,o+j,none⟩=some u
def r0 (w:World) (A:Option Addr) (l:List HP):Prop:=0<l.length→∃g,A=some ⟨g,0,none⟩∧g<w.heap.size∧∀j u,(bp l)[j]? =some u→w.cell? ⟨g,j,none⟩=some u
theorem r0.o {w:World} {A:Option Addr} {l:List HP} (h:r0 w A l):nM w A l:=fun hn=>by
 obtain⟨g,e,h1,h2⟩:=h hn;exact⟨g,0,e,h1,fun j u hu=>by rw[Nat.zero_add];exact h2 j u hu⟩
theorem nM.below {w w':World} {A:Option Addr} {l:List HP} (h:nM w A l) (hb:Below w.heap.size w w'):nM w' A l:=fun hn=>by
 obtain⟨g,o,e,h1,h2⟩:=h hn;exact⟨g,o,e,aq h1 hb.size,fun j u hu=>(hb.cell (p:=⟨g,o+j,none⟩) h1).trans (h2 j u hu)⟩
theorem r0.below {w w':World} {A:Option Addr} {l:List HP} (h:r0 w A l) (hb:Below w.heap.size w w'):r0 w' A l:=fun hn=>by
 obtain⟨g,e,h1,h2⟩:=h hn;exact⟨g,e,aq h1 hb.size,fun j u hu=>(hb.cell (p:=⟨g,j,none⟩) h1).trans (h2 j u hu)⟩
structure qP (w:World) (M:Nat→Prop) (v:Value) (l:List HP):Prop where
 row:(v= .slice none 0 0∧l=[])∨∃g c,v= .slice (some ⟨g,0,none⟩) l.length c∧l.length≤c∧g<w.heap.size∧¬M g∧∀j u,(bp l)[j]? =some u→w.cell? ⟨g,j,none⟩=some u
 tm:∀x∈l,nk w M x.2 x.1.ts
section
variable {w w' : World} {M M' : Nat → Prop} {v : Value} {l : List HP} {ts : List Nat}
theorem nk.sl (h:nk w M v ts):pk v:=by obtain⟨g,c,e,_⟩:=h;exact⟨_,_,_,e⟩
theorem nk.keep (h:nk w M v ts) (hs:w.heap.size≤w'.heap.size) (hb:∀g,g<w.heap.size→¬M g→w'.heap[g]? =w.heap[g]?) (hM:∀g,g<w.heap.size→M' g→M g):nk w' M' v ts:=by
 obtain⟨g,c,e,h1,h2,h3⟩:=h;exact⟨g,c,e,aq h1 hs,fun hh=>h2 (hM g h1 hh),fun j hj=>(World.cell?_of_block (hb g h1 h2)).trans (h3 j hj)⟩
theorem nk.below (h:nk w M v ts) (hb:Below w.heap.size w w'):nk w' M v ts:=h.keep hb.size (fun g hg _=>hb.block g hg) (fun _ _ h=>h)
theorem qP.keep (h:qP w M v l) (hs:w.heap.size≤w'.heap.size) (hb:∀g,g<w.heap.size→¬M g→w'.heap[g]? =w.heap[g]?) (hM:∀g,g<w.heap.size→M' g→M g):qP w' M' v l:=by
 refine⟨?_,fun x hx=>(h.tm x hx).keep hs hb hM⟩;rcases h.row with h|⟨g,c,e,h1,h2,h3,h4⟩
 ·exact .inl h
 ·exact .inr ⟨g,c,e,h1,aq h2 hs,fun hh=>h3 (hM g h2 hh),fun j u hu=>(World.cell?_of_block (hb g h2 h3)).trans (h4 j u hu)⟩
theorem qP.below (h:qP w M v l) (hb:Below w.heap.size w w'):qP w' M v l:=h.keep hb.size (fun g hg _=>hb.block g hg) (fun _ _ h=>h)
theorem qP.weak (h:qP w M v l) (hM:∀k,M' k→M k):qP w M' v l:=h.keep (aj _) (fun _ _ _=>rfl) (fun g _ hh=>hM g hh)
theorem qP.iF:qP w M (.slice none 0 0) []:=⟨.inl ⟨rfl,rfl⟩,fun x hx=>by cases hx⟩
theorem qP.Wa (h:qP w M v l):∀x∈l,pk x.2:=fun x hx=>(h.tm x hx).sl
theorem qP.dg (h:qP w M v l):∃A c,v= .slice A l.length c∧l.length≤c∧r0 w A l∧(A=none→c=0)∧(∀b o,A=some ⟨b,o,none⟩→o=0):=by
 rcases h.row with⟨rfl,rfl⟩|⟨g,c,rfl,h1,h2,h3,h4⟩
 ·exact⟨none,0,rfl,aj _,fun h=>absurd h (by simp),fun _=>rfl,fun _ _ e=>by cases e⟩
 ·exact⟨_,c,rfl,h1,fun _=>⟨g,rfl,h2,h4⟩,fun e=>(by cases e),fun b o e=>by injection e with e;injection e with _ e;exact e.symm⟩
theorem sT {base:Nat} (h:w.ownsRow base 52 2 v l.length (bp l)) (hM:∀k,M k→k<base) (ht:∀x∈l,nk w M x.2 x.1.ts):qP w M v l:=by
 refine⟨?_,ht⟩;have h':=h;rcases h.2 with⟨rfl,h0⟩|⟨g,cap,cur,rfl,hbase,hb,h1,h2⟩
 ·exact .inl ⟨by rfl,List.eq_nil_of_length_eq_zero h0⟩
 ·refine .inr ⟨g,cap,rfl,h1,(ah hb).1,fun hm=>by have:=hM g hm;omega,fun j u hu=> ?_⟩;have hj:j<l.length*2:=by
   have:=(List.getElem?_eq_some_iff.1 hu).1;rw[rY]at this;exact this
  rw[h'.cellAt j hj,hu]
end
theorem uo (w:World) (base:Nat) (v:Value) (n:Nat) (l:List HP) (hown:w.ownsRow base 52 2 v n (bp l)) (A:Option Addr) (m c:Nat) (x:List HP) (hx:nM w A x) (hm:x.length=m) (h1:∀y∈x,pk y.2)
  (hb:n+m≤100000000) (hbase:base≤w.heap.size) (ty:TypeId):
  ∃v' w',(Builtin.append_ #[31,31] ty #[v, .slice A m c]).run Tryz.prog w= .ok v' w'∧w'.ownsRow base 52 2 v' (n+m) (bp (l++x))∧w.grownBy w' v.ownBlock∧(v'.ownBlock=v.ownBlock∨v'.ownBlock=some w.heap.size):=by
 obtain⟨i0,hi,hz0,hz1,hz2⟩:=info_parts Tryz.Ny;rcases Nat.eq_zero_or_pos m with h0|h0
 ·subst h0;obtain rfl:x=[]:=List.eq_nil_of_length_eq_zero hm;exact⟨v,w,lK w base _ ty _ i0 2 Tryz.underlying31 hi v n _ hown A c,by simpa using hown,World.grownBy.refl w _, .inl rfl⟩
 ·obtain⟨g,o,rfl,_,hc⟩:=hx (by omega);obtain⟨v',w',hr,h1,h2,_,h4⟩:=run_append_own_at (P:=Tryz.prog) w base 31 ty 52 i0 (.agg #[.string ⟨#[]⟩, .slice none 0 0]) 2 40 Tryz.underlying31 hi hz0 hz1 hz2 rfl (by decide) v n (bp l) hown ⟨g,o,none⟩ m c (bp x) (by rw[rY,hm])
   (fun j u hu=>by rw[lq];exact hc j u hu) (zg x h1) (by unfold maxLen;omega) (by omega) hbase
  exact⟨v',w',hr,by rw[rZ];exact h1,h2,h4⟩
theorem pn {A:Option Addr} {l:List HP} {n c:Nat} (hn:l.length=n) (i j:Nat) (qY:i≤j) (hj:j≤n) (hc:n≤c) (low high:Option Value)
  (Gf:low=some (.int .i64 i)∨(low=none∧i=0)) (yn:high=some (.int .i64 j)∨(high=none∧j=n)) (hA:∀b o,A=some ⟨b,o,none⟩→o=0):
  ∃A',(∀w,(Instr.sliceAt 31 (.slice A n c) low high none).run Tryz.prog w= .ok (.slice A' (j - i) (c - i)) w)∧∀w,r0 w A l→nM w A' ((l.take j).drop i):=by
 have hb:∀w,(Instr.sliceBounds true n c low high none).run Tryz.prog w= .ok (i,j,c) w:=by
  intro w;have e1:(0:Int)≤(i:Int):=(by omega);have e2:(i:Int)≤(j:Int):=(by omega);have e3:(j:Int)≤(c:Int):=(by omega);have e0:(0:Int)≤(j:Int):=(by omega);rcases Gf with rfl|⟨rfl,rfl⟩<;>rcases yn with rfl|⟨rfl,rfl⟩
  ·simp[Instr.sliceBounds,run_sliceBound _ _ _ _ _ e1 e2,run_sliceBound _ _ _ _ _ e0 e3]
  ·simp[Instr.sliceBounds,run_sliceBound _ _ _ _ _ e1 e2]
  ·simp[Instr.sliceBounds,run_sliceBound _ _ _ _ _ e0 e3]
  ·simp[Instr.sliceBounds]
 have hsz:∀w,(sizeOf (Tryz.prog.elem 31)).run Tryz.prog w= .ok 2 w:=fun w=>by kernel_rfl
 have hrun:∀w,(Instr.sliceAt 31 (.slice A n c) low high none).run Tryz.prog w= .ok (sliced A i j c 2) w:=by
  intro w;rw[run_sliceAt_slice _ _ _ _ _ _ Tryz.underlying31,run_slice_any _ _ _ _ _ Tryz.underlying31,hb];simp[Result.andThen,hsz]
 refine⟨_,hrun,fun w h hlen=> ?_⟩;rw[List.length_drop,List.length_take]at hlen;obtain⟨g,rfl,hg,cA⟩:=h (by omega);refine⟨g,i*2, ?_,hg,fun k u hu=> ?_⟩
 ·rw[if_neg (by omega)];simp[lq]
 ·rw[xj,List.getElem?_drop]at hu;refine cA _ _ ?_;have hk:=(List.getElem?_eq_some_iff.1 hu).1;rw[←hu]
  conv=>lhs;rw[←List.take_append_drop j l,rZ]
  rw[List.getElem?_append_left hk]
theorem wj {base:Nat} (X:World) (hb:base≤X.heap.size):(X.alloc (.cells #[] 52)).ownsRow base 52 2 (.slice (some ⟨X.heap.size,0,none⟩) 0 0) 0 (bp []):=
 ⟨rfl, .inr ⟨X.heap.size,0,#[],rfl,hb,heap_alloc_new X _,aj _,Nat.zero_le _,rfl,rfl⟩⟩
theorem qw (V:World) (r:X.Row) (tv:Value):nM (V.alloc (.cells #[encStr r.b,tv] 52)) (some ⟨V.heap.size,0,none⟩) [(r,tv)]:=fun _=>by
 refine⟨V.heap.size,0,rfl,by simp,fun j u hu=> ?_⟩;rw[Nat.zero_add,cell_of_row _ V.heap.size j _ _ _ (heap_alloc_new V _)];rw[←hu];simp[bp]
theorem nM.kept {w w':World} {g:Nat} {l:List HP} {row:Option Nat} (h:nM w (some ⟨g,0,none⟩) l) (hg:w.grownBy w' row) (hne:some g≠row):nM w' (some ⟨g,0,none⟩) l:=fun hn=>by
 obtain⟨g',o,e,h1,h2⟩:=h hn;injection e with e;injection e with e1 e2 e3;subst e1 e2;exact⟨g,0,rfl,aq h1 hg.size,fun j u hu=>(World.cell?_of_block (hg.block g h1 hne)).trans (h2 j u hu)⟩
theorem je {w:World} {o:Oper} {a:Act} {K:Act→World→Prop} {Q:Exit→Act→World→Prop} (s x:Operand) (ho:o.op= .call {callee:= .builtin .append,args:=#[s,x],argTypes:=#[31,31]})
  (base:Nat) (v:Value) (n:Nat) (l:List HP) (hs:a.eval s=v) (hown:w.ownsRow base 52 2 v n (bp l)) (A:Option Addr) (m c:Nat) (x':List HP) (hx:a.eval x= .slice A m c) (hr:nM w A x') (hm:x'.length=m) (h1:∀y∈x',pk y.2)
  (hb:n+m≤100000000) (hbase:base≤w.heap.size)
  (h:∀v' w',w'.ownsRow base 52 2 v' (n+m) (bp (l++x'))→w.grownBy w' v.ownBlock→(v'.ownBlock=v.ownBlock∨v'.ownBlock=some w.heap.size)→K (a.put o.dst v') w'):o.wp Tryz.prog a w K Q:=by
 obtain⟨v',w',hrun,h2,h3,h4⟩:=uo w base v n l hown A m c x' hr hm h1 hb hbase o.type;unfold Oper.wp execOp;simp only[ho,resolve,invoke,builtin,Sem.run_bind,Sem.run_pure,Result.andThen_ok,List.map_toArray,List.map_cons,List.map_nil,hs,hx,hrun];exact h v' w' h2 h3 h4
theorem ik {w:World} {ops:Array Oper} {rest:List Oper} {o:Oper} {a:Act} {Q:Exit→Act→World→Prop} (hgd:o.guard=none) (s x:Operand) (ho:o.op= .call {callee:= .builtin .append,args:=#[s,x],argTypes:=#[31,31]})
  (base:Nat) (v:Value) (n:Nat) (l:List HP) (hs:a.eval s=v) (hown:w.ownsRow base 52 2 v n (bp l)) (A:Option Addr) (m c:Nat) (x':List HP) (hx:a.eval x= .slice A m c) (hr:nM w A x') (hm:x'.length=m) (h1:∀y∈x',pk y.2)
  (hb:n+m≤100000000) (hbase:base≤w.heap.size)
  (h:∀v' w',w'.ownsRow base 52 2 v' (n+m) (bp (l++x'))→w.grownBy w' v.ownBlock→(v'.ownBlock=v.ownBlock∨v'.ownBlock=some w.heap.size)→wpList Tryz.prog ops Q rest (a.put o.dst v') w'):wpList Tryz.prog ops Q (o::rest) a w:=
 wpList_plain hgd fun _ hK=>je s x ho base v n l hs hown A m c x' hx hr hm h1 hb hbase fun v' w' h2 h3 h4=>hK _ _ (h v' w' h2 h3 h4)
section
variable {W W' : World} {base n sz : Nat} {e : TypeId} {v : Value} {xs : List Value}
theorem wk (h:W.ownsRow base e sz v n xs) (hs:∀k,v.ownBlock=some k→W'.heap[k]? =W.heap[k]?):W'.ownsRow base e sz v n xs:=by
 obtain⟨hl,h|⟨g,cap,cur,rfl,hb,hg,h1⟩⟩:=h
 ·exact⟨hl, .inl h⟩
 ·exact⟨hl, .inr ⟨g,cap,cur,rfl,hb,(hs g rfl).trans hg,h1⟩⟩
theorem cW (h:W.ownsRow base e sz v n xs) (hb:Below W.heap.size W W'):W'.ownsRow base e sz v n xs:=wk h (fun k hk=>hb.block k (h.lt k hk).2)
theorem En (h:W.ownsRow base e sz v n xs) {k:Nat} (hv:v.ownBlock=some k):∃cur,W.heap[k]? =some (.cells cur e (0,0)):=by
 rcases h.2 with⟨rfl,_⟩|⟨g,cap,cur,rfl,_,hg,_⟩
 ·cases hv
 ·have:g=k:=(by simpa [Value.ownBlock] using hv);subst this;exact⟨cur,hg⟩
theorem C6 (h:W.ownsRow base e sz v n xs) {b:Nat} {cs:Array Value} {t:TypeId} {fr:Nat×Nat} (hr:W.heap[b]? =some (.cells cs t fr)) (ht:e≠t):v.ownBlock≠some b:=fun hh=>by
 obtain⟨c2,a2⟩:=En h hh;rw[a2]at hr;injection hr with hr;injection hr with _ hr;exact ht hr
theorem uq (h:W.ownsRow base e sz v n xs) {b:Nat} {cs:Array Value} {t:TypeId} {fr:Nat×Nat} (hr:W.heap[b]? =some (.cells cs t fr)) (ht:e≠t) (hg:W.grownBy W' v.ownBlock):W'.heap[b]? =some (.cells cs t fr):=
 (hg.block b (ah hr).1 (fun hh=>C6 h hr ht hh.symm)).trans hr
end
abbrev pQ (m:X.M) (g c:Nat) (v:Value):Obj:=
 .cells #[.string ⟨#[102]⟩, .int .i64 (m.size:Nat), .slice (some ⟨g,0,none⟩) m.ks.length c, .bool m.there,v, .int .i64 (m.time:Nat), .int .u8 (m.mode:Nat), .bool m.ord, .int .i64 (m.key:Nat), .bool m.lost, .string ⟨m.value.toArray⟩, .int .i64 (m.at_:Nat), .bool m.same, .string ⟨m.last.toArray⟩, .bool m.read, .string ⟨m.written.toArray⟩] 34 (0,0)
structure oL (w:World) (q g c:Nat) (M:Nat→Prop) (m:X.M) (v:Value) (l:List HP):Prop where
 row:w.heap[q]? =some (pQ m g c v)
 ks:eY w g m.ks
 ng:g≠q
 rows:qP w M v l
 nq:M q
 eq:l.map (·.1)=m.rows
def Eo (di:J.B) (a b c:Nat) (mode:Nat):J.B:=if mode=0 then [52,50]else if mode≠a∧mode≠b∧mode≠c then di else []
theorem Ko {di:J.B} {a b c:Nat} {mode:Nat} {l:List Nat} (hl:∀x,x∈l↔x=a∨x=b∨x=c) (hw:di≠X.good) (h:X.cB di l mode=X.good):Eo di a b c mode=[]:=by
 unfold X.cB at h;unfold Eo;split
 ·rename_i h1;rw[if_pos h1]at h;exact absurd h (by decide)
 ·rename_i h1;rw[if_neg h1]at h
  split
  ·rename_i h2;rw[if_neg (by rw[hl];omega)]at h;exact absurd h hw
  ·rfl
theorem Kq {di:J.B} {a b c:Nat} {mode:Nat} {l:List Nat} (hl:∀x,x∈l↔x=a∨x=b∨x=c) (h:X.cB di l mode≠X.good):Eo di a b c mode=X.cB di l mode:=by
 unfold X.cB at h⊢;unfold Eo;split
 ·rfl
 ·rename_i h1;rw[if_neg h1]at h
  split
  ·rename_i h2;rw[if_neg (by rw[hl];omega)]
  ·rename_i h2;rw[if_pos (by rw[hl];omega)]at h;exact absurd rfl h
section
variable {w w' : World} {q g c : Nat} {M : Nat → Prop} {m : X.M} {v : Value} {l : List HP}
theorem oL.below (h:oL w q g c M m v l) (hb:Below w.heap.size w w'):oL w' q g c M m v l:=
 ⟨(hb.block q (ah h.row).1).trans h.row,h.ks.below hb,h.ng,h.rows.below hb,h.nq,h.eq⟩
theorem oL.len (h:oL w q g c M m v l):l.length=m.rows.length:=by rw[←h.eq,List.length_map]
theorem hpart_any (hr:w.heap[q]? =some (pQ m g c v)) (hk:eY w g m.ks) (i:Nat) (hi:i<m.ks.length) (b:J.B) (hb:(X.aF m.ks i).at_+(X.aF m.ks i).len≤b.length) (hbl:b.length≤1000000):
  Calls Tryz.prog 52 #[.pointer (some ⟨q,0,none⟩), .int .i64 (i:Nat), .string ⟨b.toArray⟩] w fun e w'=>e= .returned (.string ⟨(X.val m.ks i b).toArray⟩)∧Below w.heap.size w w':=by
 have hc:=fun j=>ag w q j _ _ _ hr;have k1:=hk.at_ hi;have k2:=hk.len hi;have k3:=hk.dup hi;have hex:(⟨b.toArray⟩:ByteArray).extract (X.aF m.ks i).at_ ((X.aF m.ks i).at_+(X.aF m.ks i).len)=⟨(X.val m.ks i b).toArray⟩:=by
  rw[ByteArray.extract_mk,Nat.add_sub_cancel_left];rfl
 have TM:(⟨b.toArray⟩:ByteArray).size=b.length:=bu b;have hw:wrap64 (((X.aF m.ks i).at_:Int)+(X.aF m.ks i).len)=(((X.aF m.ks i).at_+(X.aF m.ks i).len:Nat):Int):=by rw[IntWalk.wrap64_in _ (by omega)];omega
 have hw2:IntKind.i64.wrap (((X.aF m.ks i).at_:Int)+(X.aF m.ks i).len)=(((X.aF m.ks i).at_+(X.aF m.ks i).len:Nat):Int):=by rw[IntKind.wrap_i64];omega
 have Wb:(i:Int)<(m.ks.length:Nat):=by omega
 have HZ:=aa (heap_alloc_new w dz);have j5:=aa ((ai _ w).alloc (aj _) dz);generalize(⟨b.toArray⟩:ByteArray)=S at hex TM⊢;generalize(⟨(X.val m.ks i b).toArray⟩:ByteArray)=R at hex⊢;have Yl:=aa hex;clear hr hk hbl hex;go_enter Tryz.func52,Tryz.ntmps52;go_wp2_with (refine wpList_store_row rfl _ _ 66 rfl w.heap.size rfl _ rfl _ _ HZ.out rfl (by kernel_rfl) rfl ?_);intro W3 hrow hg hsz;have HB:=aa (j5.out.grown hg j5.out.size (fun k e=>by injection e with e;omega));have gX:=fun j=>ag W3 w.heap.size j _ _ _ hrow;clear hrow hg hsz HZ j5 k1 k2 k3 hc;go_wp2;go_ret;exact⟨by rw[←Yl.out];rfl,HB.out⟩
theorem ur (hr:w.heap[q]? =some (pQ m g c v)) (di:J.B) (a b d:Nat):
  Calls Tryz.prog 59 #[.pointer (some ⟨q,0,none⟩), .string ⟨di.toArray⟩, .int .u8 (a:Nat), .int .u8 (b:Nat), .int .u8 (d:Nat)] w fun e w'=>e= .returned (.string ⟨(Eo di a b d m.mode).toArray⟩)∧w=w':=by
 have hc:=fun j=>ag w q j _ _ _ hr;clear hr;unfold Eo;generalize m.mode=mode at hc⊢;by_cases h0:mode=0
 ·rw[if_pos h0];subst h0;go_enter Tryz.func59,Tryz.ntmps59;go_wp2;go_ret;exact⟨rfl,rfl⟩
 ·rw[if_neg h0];have k0:¬((mode:Int)=0):=(by omega);by_cases h2:mode≠a∧mode≠b∧mode≠d
  ·rw[if_pos h2];have k1:((mode:Int) !=(a:Int))=true:=(by simp;omega);have k2:((mode:Int) !=(b:Int))=true:=(by simp;omega);have k3:((mode:Int) !=(d:Int))=true:=(by simp;omega);clear h2 h0;go_enter Tryz.func59,Tryz.ntmps59;go_wp2;go_ret;exact⟨rfl,rfl⟩
  ·rw[if_neg h2];by_cases e1:mode=a
   ·subst e1;clear h0;go_enter Tryz.func59,Tryz.ntmps59;go_wp2;go_ret;exact⟨rfl,rfl⟩
   ·have k1:((mode:Int) !=(a:Int))=true:=(by simp;omega);by_cases e2:mode=b
    ·subst e2;clear h0 e1 h2;go_enter Tryz.func59,Tryz.ntmps59;go_wp2;go_ret;exact⟨rfl,rfl⟩
    ·have k2:((mode:Int) !=(b:Int))=true:=(by simp;omega);obtain rfl:mode=d:=(by omega);clear h0 e1 e2 h2;go_enter Tryz.func59,Tryz.ntmps59;go_wp2;go_ret;exact⟨rfl,rfl⟩
theorem oL.turn {m':X.M} (h:oL w q g c M m v l) (hg:w.grownBy w' (some q)) (hr:w'.heap[q]? =some (pQ m' g c v)) (e1:m'.ks=m.ks) (e2:m'.rows=m.rows):oL w' q g c M m' v l:=by
 refine⟨hr, ?_,h.ng,h.rows.keep hg.size (fun k hk hn=>hg.block k hk (fun e=>hn (by injection e with e;rw[e];exact h.nq))) (fun _ _ h=>h),h.nq,by rw[e2];exact h.eq⟩;rw[e1];exact⟨aq h.ks.1 hg.size,fun j u hu=>(World.cell?_of_block (hg.block g h.ks.1 (fun e=>h.ng (by injection e)))).trans (h.ks.2 j u hu)⟩
theorem Ep (h:oL w q g c M m v l) (hk:X.fQ m.ks m.size) (hf:∀x∈l,X.bg m.ks m.size x.1.b=true) (hl:l.length≤1000000) (p:J.B):
  Calls Tryz.prog 61 #[.pointer (some ⟨q,0,none⟩), .string ⟨p.toArray⟩] w fun e w'=>(∃z:Int,e= .returned (.int .i64 z)∧((∃(j:Nat) (hj:j<l.length),z=j∧X.val m.ks 0 l[j].1.b=p)∨(z= -1∧∀x∈l,X.val m.ks 0 x.1.b≠p)))∧Below w.heap.size w w':=by
 obtain⟨A,c',rfl,hlc,hat,_,_⟩:=h.rows.dg;have HA:=aa hat;have HH:=aa h;have aN:=hk.one;have hsz:=hk.size;have zh:=aa (fun W (hb:Below w.heap.size w W) (x:HP) (hx:x∈l)=>hpart_any (h.below hb).row (h.below hb).ks 0 aN.1 x.1.b ((X.aM.1 (hf x hx)).2 _ (X.aR aN.1)) (by have:=(X.aM.1 (hf x hx)).1;omega));have BR:=aa (fun x:HP=>ea (X.val m.ks 0 x.1.b) p);clear h hat hk hf aN hsz;generalize(⟨p.toArray⟩:ByteArray)=ps at BR⊢;go_enter Tryz.func61,Tryz.ntmps61;go_wp2;go_loopw [5] (fun i wr=>∃j:Nat,j≤l.length∧i= .int .i64 j∧Below w.heap.size w wr∧∀t (ht:t<l.length),t<j→X.val m.ks 0 l[t].1.b≠p) (fun i _=>l.length - (intOf i).toNat)
 case atStart=>exact⟨0,Nat.zero_le _,rfl,ai _ _,fun t _ h=>absurd h (Nat.not_lt_zero t)⟩
 case round=>
  obtain⟨j,hj,rfl,hB,hno⟩:=hrel;have PW:=aa hno;have HB:=aa hB;have hc:=fun j=>ag wr q j _ _ _ (HH.out.below hB).row;clear hno hB;by_cases hlt:j<l.length
  ·obtain⟨g1,rfl,hg1,hcells⟩:=HA.out (by omega);obtain⟨c0,c1⟩:=lQ l j hlt;have hc0:wr.cell? ⟨g1,j*2,none⟩=some (encStr l[j].1.b):=(HB.out.cell (p:=⟨g1,j*2,none⟩) hg1).trans (hcells _ _ c0);have Sp:=aa (zh.out wr HB.out l[j] (List.getElem_mem hlt));have P3:=aa (BR.out l[j]);have HE:=aa (show X.val m.ks 0 l[j].1.b=X.val m.ks 0 l[j].1.b from rfl);have a7:=aa hlt;clear hcells c0 c1;unfold encStr at hc0;generalize(⟨(l[j].1.b).toArray⟩:ByteArray)=S at hc0 Sp;generalize(⟨(X.val m.ks 0 l[j].1.b).toArray⟩:ByteArray)=T at Sp P3;go_wp2_with fail;refine Sp.out.mono ?_;rintro e w1 ⟨rfl,hb⟩;have cH:=aa (HB.out.trans (hb.mono HB.out.size));clear hb Sp hc hc0;by_cases he:X.val m.ks 0 l[j].1.b=p
   ·have hq:(T.toList==ps.toList)=true:=(by rw[P3.out];exact decide_eq_true he);have HK:=aa he;clear he P3;go_wp2;go_ret;exact⟨⟨_,rfl, .inl ⟨j,a7.out,rfl,HK.out⟩⟩,cH.out⟩
   ·have hq:(T.toList==ps.toList)=false:=(by rw[P3.out];exact decide_eq_false he);have HK:=aa he;clear he P3;go_wp2;go_roundw
    case rel=>
     refine⟨j+1,a7.out,by go_num,cH.out,fun t ht P4=> ?_⟩;by_cases e:t=j
     ·subst e;exact HK.out
     ·exact PW.out t ht (by omega)
    case measure=>have:=a7.out;simp[intOf];omega
  ·obtain rfl:j=l.length:=(by omega);have cH:=HB;go_wp2;go_ret;refine⟨⟨_,rfl, .inr ⟨rfl,fun r hr=> ?_⟩⟩,cH.out⟩;obtain⟨t,ht,rfl⟩:=List.getElem_of_mem hr;exact PW.out t ht ht
end
def lR (n:Nat):Code→Option Code
 | .region id l d=>if id=n then some (.region id l d)else none
 | .loop c=>lR n c
 | .seq a b=>match lR n a with
  |some c=>some c
  |none=>lR n b
 | .block _ c=>lR n c
 | .scope c=>lR n c
 | .cond _ a b=>match lR n a with
  |some c=>some c
  |none=>lR n b
 |_=>none
theorem il {P:Program} {ops:Array Oper} {Q:Exit→Act→World→Prop} {S:World→Prop} {L:Act→World→Prop} {i:Nat} {o:Oper} {t:Pl} {a:Act} {w:World} (ho:ops[i]? =some o) (hg:Region.wanted o (yielded ops a.tmps)=false)
  (h:∀K:Act→World→Prop,Shut (∀(a:Act) (w:World) (T:World→Prop),(∀w,T w→S w)→T w→wpPm P ops Q L t T a w→K a w)→K (a.put o.dst undef) w):wpPm P ops Q L (.wr i t) S a w:=
 wpPm_write ho (fun K hK=>by rw[hg,if_neg (by decide)];exact h K hK)
def xk (ks:List X.Ky) (i:Nat) (x y:HP):Bool:=X.nC ks i x.1 y.1
def BS (ks:List X.Ky) (i:Nat) (x:HP) (l:List HP):List HP:=l.takeWhile (xk ks i · x)++x::l.dropWhile (xk ks i · x)
def pE (ks:List X.Ky) (i:Nat) (l:List HP):List HP:=l.foldl (fun a x=>BS ks i x a) []
theorem Nz {α β:Type} (f:α→β) (p:β→Bool) (l:List α):(l.takeWhile fun x=>p (f x)).map f=(l.map f).takeWhile p∧(l.dropWhile fun x=>p (f x)).map f=(l.map f).dropWhile p:=by
 induction l with
 |nil=>exact⟨rfl,rfl⟩
 |cons a t ih=>
  rw[List.map_cons,List.takeWhile_cons,List.takeWhile_cons,List.dropWhile_cons,List.dropWhile_cons];cases p (f a)with
  |true=>exact⟨by rw[if_pos rfl,if_pos rfl,List.map_cons,ih.1],by rw[if_pos rfl,if_pos rfl,ih.2]⟩
  |false=>exact⟨rfl,rfl⟩
theorem Hg (ks:List X.Ky) (i:Nat) (x:HP) (l:List HP):(BS ks i x l).map (·.1)=X.qZ ks i x.1 (l.map (·.1)):=by
 obtain⟨h1,h2⟩:=Nz (fun y:HP=>y.1) (fun y=>X.nC ks i y x.1) l;rw[X.JZ,←h1,←h2,BS,List.map_append,List.map_cons];rfl
theorem rv (ks:List X.Ky) (i:Nat) (l:List HP) (x:HP):pE ks i (l++[x])=BS ks i x (pE ks i l):=by
 unfold pE;rw[List.foldl_append];rfl
theorem zi (ks:List X.Ky) (i:Nat) (l:List HP):(pE ks i l).map (·.1)=X.bS ks i (l.map (·.1)):=by
 refine X.pX (P:=fun l=>(pE ks i l).map (·.1)=X.bS ks i (l.map (·.1))) rfl (fun l x ih=> ?_) l;rw[rv,List.map_append,List.map_cons,List.map_nil,X.pW,Hg,ih]
theorem uu (ks:List X.Ky) (i:Nat) (l:List HP):(pE ks i l).length=l.length:=by
 have:=congrArg List.length (zi ks i l);rw[List.length_map,X.lJ,List.length_map]at this;exact this
theorem Hh {ks:List X.Ky} {i:Nat} {x z:HP} {l:List HP} (h:z∈BS ks i x l):z=x∨z∈l:=by
 unfold BS at h;rcases List.mem_append.1 h with h|h
 ·exact .inr ((List.takeWhile_sublist _).subset h)
 ·rcases ak h with h|h
  ·exact .inl h
  ·exact .inr ((List.dropWhile_sublist _).subset h)
theorem uv {ks:List X.Ky} {i:Nat} {z:HP} (l:List HP):z∈pE ks i l→z∈l:=by
 refine X.pX (P:=fun l=>z∈pE ks i l→z∈l) (fun h=>h) (fun l x ih h=> ?_) l;rw[rv]at h;rcases Hh h with h|h
 ·subst h;exact List.mem_append_right _ ae
 ·exact List.mem_append_left _ (ih h)
theorem Kr {α:Type} (p:α→Bool) (l:List α):l.takeWhile p=l.take (l.takeWhile p).length∧l.dropWhile p=l.drop (l.takeWhile p).length∧(l.takeWhile p).length≤l.length∧(∀j (h:j<l.length),j<(l.takeWhile p).length→p l[j]=true)∧(∀h:(l.takeWhile p).length<l.length,p l[(l.takeWhile p).length]=false):=by
 induction l with
 |nil=>exact⟨rfl,rfl,aj _,fun j h=>absurd h (by simp),fun h=>absurd h (by simp)⟩
 |cons a t ih=>
  obtain⟨h1,h2,h3,h4,h5⟩:=ih;rw[List.takeWhile_cons,List.dropWhile_cons];cases hp:p a with
  |true=>
   rw[if_pos rfl,if_pos rfl];refine⟨by rw[List.length_cons,List.take_succ_cons,←h1],by rw[List.length_cons,List.drop_succ_cons,←h2],by simp;omega,fun j h hj=> ?_,fun h=> ?_⟩
   ·cases j with
    |zero=>exact hp
    |succ j=>exact h4 j (by simpa using h) (by simpa using hj)
   ·simpa using h5 (by simpa using h)
  |false=>
   exact⟨rfl,rfl,Nat.zero_le _,fun j h hj=>absurd hj (by simp),fun h=>hp⟩
abbrev P5:Obj:= .cells #[.string ⟨#[]⟩, .slice none 0 0] 52 (0,0)
abbrev TN (p:HP):Obj:= .cells #[encStr p.1.b,p.2] 52 (0,0)
section
variable {w w' : World} {q g c : Nat} {M : Nat → Prop} {m : X.M} {v : Value} {l : List HP}
theorem qP.cells (h:qP w M v l) {k:Nat} (hk:k<l.length):∃g0 c0,v= .slice (some ⟨g0,0,none⟩) l.length c0∧w.cell? ⟨g0,k*2,none⟩=some (encStr l[k].1.b)∧w.cell? ⟨g0,k*2+1,none⟩=some l[k].2:=by
 rcases h.row with⟨_,e⟩|⟨g0,c0,e,_,_,_,h4⟩
 ·rw[e]at hk;exact absurd hk (by simp)
 ·obtain⟨a,b⟩:=lQ l k hk;exact⟨g0,c0,e,h4 _ _ a,h4 _ _ b⟩
theorem nk.cell {ts:List Nat} (h:nk w M v ts) {i:Nat} (hi:i<ts.length):∃g0 c0,v= .slice (some ⟨g0,0,none⟩) ts.length c0∧w.cell? ⟨g0,i,none⟩=some (qO ts[i]):=by
 obtain⟨g0,c0,e,_,_,h3⟩:=h;exact⟨g0,c0,e,h3 i hi⟩
end
structure jI (m:X.M) (l:List HP):Prop where
 fit:∀x∈l,X.bg m.ks m.size x.1.b=true
 ts:∀x∈l,x.1.ts.length=m.ks.length
 ks:X.fQ m.ks m.size
 len:l.length≤1000000
section
variable {w w' : World} {q g c : Nat} {M : Nat → Prop} {m : X.M} {v : Value} {l : List HP}
theorem jI.part (hf:jI m l) (h:oL w q g c M m v l) {i:Nat} (hi:i<m.ks.length) (x:HP) (hx:x∈l):
  Calls Tryz.prog 52 #[.pointer (some ⟨q,0,none⟩), .int .i64 (i:Nat), .string ⟨x.1.b.toArray⟩] w fun e w'=>e= .returned (.string ⟨(X.val m.ks i x.1.b).toArray⟩)∧Below w.heap.size w w':=
 hpart_any h.row h.ks i hi x.1.b ((X.aM.1 (hf.fit x hx)).2 _ (X.aR hi)) (by have:=(X.aM.1 (hf.fit x hx)).1;have:=hf.ks.size;omega)
theorem jI.sub (hf:jI m l) {l':List HP} (hs:∀x∈l',x∈l) (hl:l'.length≤l.length):jI m l':=⟨fun x hx=>hf.fit x (hs x hx),fun x hx=>hf.ts x (hs x hx),hf.ks,by have:=hf.len;omega⟩
end
end Go.Proofs.YtipljcmmokaokaaGreat
