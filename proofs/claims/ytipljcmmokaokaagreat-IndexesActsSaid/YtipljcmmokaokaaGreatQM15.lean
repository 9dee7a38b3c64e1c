import Derived.Test.YtipljcmmokaokaaGreatQM14
set_option linter.unusedVariables false
set_option linter.unusedSimpArgs false
set_option maxHeartbeats 40000000
namespace Go.Proofs.YtipljcmmokaokaaGreat
open Go.RowKit Go.Lib Go.Maps Go.WideMaps Go.Sort
set_option maxRecDepth 100000
theorem sG {x y:J.B} (h:x≠y):((⟨x.toArray⟩:ByteArray).toList==y)=false:=by
 rw[ByteArray.toList_eq]
 simpa using h
section
variable {w0 : World} {p pf g c size ct u : Nat} {nm : J.B} {ks : List X.Ky} {rows : List X.Row} {f : Fv} {w w' : World} {s s1 s2 : J.St} {fs : List (Nat × Obj)} {ok : Obj}
theorem Du (h0:w.heap[pf]? =some (ax p nm size g ks.length c f)) (hs:X.bM [52,55] [1,3] f.mode≠[48,48]):
  Calls Tryz.prog 20 #[.pointer (some ⟨pf,0,none⟩)] w λe w'=>e= .returned (.tuple #[.slice none 0 0, .string ⟨(X.bM [52,55] [1,3] f.mode).toArray⟩])∧Below w.heap.size w w':=by
 have dD:=ae (bG h0 [52,55] [1,3] 2 #[.int .u8 1, .int .u8 3] rfl rfl (by decide) w.heap.size rfl);have hne:=sG hs;have HB:=ae ((ak _ w).alloc (aq _) (.cells #[.int .u8 1, .int .u8 3] 32));generalize(⟨(X.bM [52,55] [1,3] f.mode).toArray⟩:ByteArray)=st at dD hne⊢;clear h0 hs;go_enter Tryz.func20,Tryz.ntmps20;go_wp2_with fail;refine dD.out.mono ?_;rintro e W1 ⟨rfl,hW1⟩;subst hW1;clear dD;go_wp2;go_ret2;exact⟨rfl,HB.out⟩
theorem Dv (h:At w0 p ((pf,ax p nm size g ks.length c f)::fs) s w) (hf:∀x∈fs,x.1≠pf) (bC:(g,ok)∈fs) (hO:bJ ok ks) (ht:J.Two s) (hX:XF nm size ks rows ct s.now) (hs:X.bM [52,55] [1,3] f.mode=[48,48]) (hl:f.lost=true):
  Calls Tryz.prog 20 #[.pointer (some ⟨pf,0,none⟩)] w λe w'=>e= .returned (.tuple #[.slice none 0 0, .string ⟨#[52,54]⟩])∧At w0 p ((pf,ax p nm size g ks.length c {f with read:=false})::fs) s w':=by
 have hlt:=(ai (h.get af)).1;have hlt:pf<w.heap.size:=hlt;have dD:=ae (bG (h.get af) [52,55] [1,3] 2 #[.int .u8 1, .int .u8 3] rfl rfl (by decide) w.heap.size rfl);rw[hs]at dD;have HA:=ae (h.below ((ak _ w).alloc (aq _) (.cells #[.int .u8 1, .int .u8 3] 32)));clear h hs;go_enter Tryz.func20,Tryz.ntmps20;go_wp2_with fail;refine dD.out.mono ?_;rintro e W1 ⟨rfl,hW1⟩;subst hW1;clear dD;refine aM (λX=>At w0 p ((pf,ax p nm size g ks.length c f)::fs) s X∧Below w.heap.size w X) ⟨HA.out,(ak _ w).alloc (aq _) _⟩ ?_;rintro W ⟨ha,sH⟩;clear HA;have h1:W.heap[pf]? =some (ax p nm size g ks.length c f):=ha.get af;have hz:=aC h1;have hc:=aj W pf h1;rw[hl]at hc;have HG:=ae (cz (f':={f with read:=false}) ha hf ht (aA (World.grownBy.refl W (some pf)) 11 (.bool false)) (aB h1 11 (.bool false)));clear ha hf bC hO ht hX h1;go_wp2;go_ret2;exact⟨rfl,HG.out⟩
theorem Si:(∀{w0:World} {p pf g c size ct:Nat} {nm:J.B} {ks:List X.Ky} {rows:List X.Row} {f:Fv} {w:World} {s:J.St} {fs:List (Nat×Obj)} {ok:Obj} (h:At w0 p ((pf,ax p nm size g ks.length c f)::fs) s w) (hf:∀x∈fs,x.1≠pf) (bC:(g,ok)∈fs) (hO:bJ ok ks) (ht:J.Two s) (hX:XF nm size ks rows ct s.now) (hs:X.bM [52,55] [1,3] f.mode=[48,48]) (hl:f.lost=false) (hkey:f.key<ks.length) (r:X.Row) (hr:r∈rows) (hp:afterOf s.now ⟨(X.pre nm f.key).toArray⟩ f.at_ f.same=some (X.aN nm ks f.key r)),Calls Tryz.prog 20 #[.pointer (some ⟨pf,0,none⟩)] w λe w'=>∃v,e= .returned (.tuple #[v, .string ⟨(gQ ks rows f.key r).toArray⟩])∧bT w' (· <w.heap.size) v r.b∧At w0 p ((pf,ax p nm size g ks.length c {f with at_:=X.aN nm ks f.key r,same:=false,lost:=false,last:=X.val ks 0 r.b,read:=true})::fs) s w')∧(∀{w0:World} {p pf g c size ct:Nat} {nm:J.B} {ks:List X.Ky} {rows:List X.Row} {f:Fv} {w:World} {s:J.St} {fs:List (Nat×Obj)} {ok:Obj} (h:At w0 p ((pf,ax p nm size g ks.length c f)::fs) s w) (hf:∀x∈fs,x.1≠pf) (bC:(g,ok)∈fs) (hO:bJ ok ks) (ht:J.Two s) (hX:XF nm size ks rows ct s.now) (hs:X.bM [52,55] [1,3] f.mode=[48,48]) (hl:f.lost=false) (hkey:f.key<ks.length) (hp:afterOf s.now ⟨(X.pre nm f.key).toArray⟩ f.at_ f.same=none),Calls Tryz.prog 20 #[.pointer (some ⟨pf,0,none⟩)] w λe w'=>e= .returned (.tuple #[.slice none 0 0, .string ⟨#[49,48]⟩])∧At w0 p ((pf,ax p nm size g ks.length c {f with at_:=[],same:=false,lost:=true,read:=false})::fs) s w'):=by
 refine⟨?z0, ?z1⟩
 case' z0=>intro w0 p pf g c size ct nm ks rows f w s fs ok h hf bC hO ht hX hs hl hkey r hr hp
 case' z1=>(intro w0 p pf g c size ct nm ks rows f w s fs ok h hf bC hO ht hX hs hl hkey hp;have aH:=trivial)
 all_goals
  have hlt:=(ai (h.get af)).1;have hlt:pf<w.heap.size:=hlt;have dD:=ae (bG (h.get af) [52,55] [1,3] 2 #[.int .u8 1, .int .u8 3] rfl rfl (by decide) w.heap.size rfl);rw[hs]at dD;have HA:=ae (h.below ((ak _ w).alloc (aq _) (.cells #[.int .u8 1, .int .u8 3] 32)));have hP:=λW=>bL nm size (some ⟨g,0,none⟩) ks.length c f.key (by have:=hX.ks.one;omega) (by have:=hX.nm;omega) W;have xY:=λw1 (hh:At w0 p ((pf,ax p nm size g ks.length c f)::fs) s w1)=>iA hh ⟨(X.pre nm f.key).toArray⟩ f.at_ f.same (by have:=hX.many;omega);rw[hp]at xY;have HP:=ae hP;have wZ:=ae xY;first
   |have aH:=aH
    have HF:=ae (λw1 (hh:At w0 p ((pf,ax p nm size g ks.length c f)::fs) s w1) w2 (hg:w1.grownBy w2 (some pf)) (hr:w2.heap[pf]? =some (ax p nm size g ks.length c {f with at_:=[],same:=false,lost:=true,read:=false}))=>cz hh hf ht hg hr)
    skip
   |have tC:=ae (λw1 (hh:At w0 p ((pf,ax p nm size g ks.length c f)::fs) s w1)=>wY hh hf bC hO ht hX hkey r hr)
    generalize gQ ks rows f.key r=st at tC⊢
  generalize(⟨(X.pre nm f.key).toArray⟩:ByteArray)=P at HP wZ;first
   |have aH:=aH
    clear hP xY hp hf bC hO ht hX hkey
   |clear hP xY hp hf bC hO ht hX hkey hr
  clear h hs;go_enter Tryz.func20,Tryz.ntmps20;go_wp2_with fail;refine dD.out.mono ?_;rintro e W1 ⟨rfl,hW1⟩;subst hW1;clear dD;refine aM (λX=>At w0 p ((pf,ax p nm size g ks.length c f)::fs) s X∧Below w.heap.size w X) ⟨HA.out,(ak _ w).alloc (aq _) _⟩ ?_;rintro W ⟨ha,sH⟩;clear HA;have hc:=aj W pf (ha.get (af:(pf,ax p nm size g ks.length c f)∈(pf,ax p nm size g ks.length c f)::fs));rw[hl]at hc;go_wp2_with fail;clear hc;refine aD 28 (.rd 0 (.rd 1 (.rd 2 (.rd 3 (.rd 4 (.rd 5 (.rd 6 (.rd 7 (.rd 8 (.rd 9 (.rd 10 (.rd 11 (.rd 13 (.rd 14 (.rd 15 (.rd 16 (.rd 17 (.rd 18 (.rd 19 (.rd 20 (.rd 21 (.rd 22 (.wr 12 (.wr 23 (.rd 24 (.rd 25 (.rd 26 (.wr 27 .fin)))))))))))))))))))))))))))) (λw'=>At w0 p ((pf,ax p nm size g ks.length c f)::fs) s w') (by kernel_rfl) (by kernel_rfl) (λc a d v w h=>by cases d<;>exact h) (ha.below ((ak _ _).drew)) ?_;repeat
   refine az (v:= ?_) (by rfl) (by rfl) (λw' hS=> ?_) (λK hK=> ?_);rotate_left
   ·have hc:=aj w' pf (hS.get (af:(pf,ax p nm size g ks.length c f)∈(pf,ax p nm size g ks.length c f)::fs));rw[hl]at hc;clear hS;go_simp;try with_reducible rfl
   go_simp;refine hK _ ?_;clear hK K
  refine wpPm_write (by rfl) (λK hK=> ?_);go_simp;refine(HP.out _).mono ?_;rintro e W2 ⟨rfl,hb⟩;have fE:=ae (ha.below (((ak _ W).drew).trans hb));have br:=ae (sH.trans ((((ak _ W).drew).trans hb).mono sH.size));refine hK.out _ _ (λw'=>At w0 p ((pf,ax p nm size g ks.length c f)::fs) s w') (λ_ h=>h) fE.out ?_;clear hK K;clear hb;refine wpPm_write (by rfl) (λK hK=> ?_);go_simp;refine(wZ.out _ fE.out).mono ?_;rintro e W3 ⟨rfl,hb⟩;have cU:=ae (fE.out.below hb);have cX:=ae (br.out.trans (hb.mono br.out.size));refine hK.out _ _ (λw'=>At w0 p ((pf,ax p nm size g ks.length c f)::fs) s w') (λ_ h=>h) cU.out ?_;clear hK K;clear hb;repeat
   refine az (v:= ?_) (by rfl) (by rfl) (λw' hS=> ?_) (λK hK=> ?_);rotate_left
   ·have hc:=aj w' pf (hS.get (af:(pf,ax p nm size g ks.length c f)∈(pf,ax p nm size g ks.length c f)::fs));rw[hl]at hc;clear hS;go_simp;try with_reducible rfl
   go_simp;refine hK _ ?_;clear hK K
  refine wpPm_write (by rfl) (λK hK=> ?_);go_simp;refine hK.out _ _ (λw'=>At w0 p ((pf,ax p nm size g ks.length c f)::fs) s w') (λ_ h=>h) cU.out ?_;clear hK K;show wpList _ _ _ _ _ _;go_wp2_with fail;first
   |have aH:=aH
    refine(lV (cU.out.get af)).mono ?_;rintro e W4 ⟨⟨_,rfl⟩,hg,hr⟩;have cZ:=ae (HF.out _ cU.out _ hg hr);clear hg hr HF
   |refine(tC.out _ cU.out).mono ?_
    rintro e W4 ⟨v,rfl,Dk,ya⟩;have cZ:=ae ya;have HS4:=ae (Dk.weak (M':=(· <w.heap.size)) (λk hk=>av hk cX.out.size));clear Dk ya tC
  go_wp2;go_ret2;first
   |have aH:=aH
    exact⟨rfl,cZ.out⟩
    skip
   |exact⟨_,rfl,HS4.out,cZ.out⟩
abbrev Dw:= @Si.1
abbrev Dx:= @Si.2
end
def Src (w0:World) (p:Nat) (fs:List (Nat×Obj)) (v:Value) (l:J.B):Prop:=∀gs t w1,(∀x∈fs,x∈gs)→At w0 p gs t w1→Sl w1 bF v l
abbrev aP (k:X.Ky):Obj:= .cells #[.int .i64 (k.at_:Nat), .int .i64 (k.len:Nat), .bool k.dup] 66 (0,0)
abbrev dN:Obj:= .cells #[.int .i64 0, .int .i64 0, .bool false] 66 (0,0)
section
variable {w0 : World} {p pf g c size ct u : Nat} {nm : J.B} {ks : List X.Ky} {rows : List X.Row} {f : Fv} {w w' : World} {s s1 s2 : J.St} {fs : List (Nat × Obj)} {ok : Obj}
theorem Src.slice {v:Value} {l:J.B} {gs:List (Nat×Obj)} (h:Src w0 p fs v l) (ha:At w0 p gs s w) (hg:∀x∈fs,x∈gs):∃A c,v= .slice A l.length c:=by
 obtain⟨A,c,e,_⟩:=(h _ _ _ hg ha).by
 exact⟨A,c,e⟩
theorem fA {x:Nat×Obj}:∀y∈fs,y∈x::fs:=λ_ hy=>ag _ hy
theorem At.stored (h:At w0 p fs s w) (o:Obj) (hg:(w.alloc o).grownBy w' (some w.heap.size)):At w0 p fs s w'∧Below w.heap.size w w':=by
 have hb:Below w.heap.size w w':=((ak _ w).alloc (aq _) o).grown hg (by simp) (λk e=>by injection e with e;omega);exact⟨h.below hb,hb⟩
theorem Dy (h0:w.heap[pf]? =some (ax p nm size g ks.length c f)) (hs:X.bM [52,55] [1,3] f.mode≠[48,48]) (k:Int) (A:Option Addr) (m cb:Nat):
  Calls Tryz.prog 25 #[.pointer (some ⟨pf,0,none⟩), .int .i64 k, .slice A m cb] w λe w'=>e= .returned (.tuple #[.slice none 0 0, .string ⟨(X.bM [52,55] [1,3] f.mode).toArray⟩])∧Below w.heap.size w w':=by
 have dD:=ae (bG h0 [52,55] [1,3] 2 #[.int .u8 1, .int .u8 3] rfl rfl (by decide) w.heap.size rfl);have hne:=sG hs;have HB:=ae ((ak _ w).alloc (aq _) (.cells #[.int .u8 1, .int .u8 3] 32));generalize(⟨(X.bM [52,55] [1,3] f.mode).toArray⟩:ByteArray)=st at dD hne⊢;clear h0 hs;go_enter Tryz.func25,Tryz.ntmps25;go_wp2_with fail;refine dD.out.mono ?_;rintro e W1 ⟨rfl,hW1⟩;subst hW1;clear dD;go_wp2;go_ret2;exact⟨rfl,HB.out⟩
theorem LF:(∀{w0:World} {p pf g c size ct:Nat} {nm:J.B} {ks:List X.Ky} {rows:List X.Row} {f:Fv} {w:World} {s:J.St} {fs:List (Nat×Obj)} {ok:Obj} (h:At w0 p ((pf,ax p nm size g ks.length c f)::fs) s w) (hf:∀x∈fs,x.1≠pf) (bC:(g,ok)∈fs) (hO:bJ ok ks) (ht:J.Two s) (hX:XF nm size ks rows ct s.now) (hs:X.bM [52,55] [1,3] f.mode=[48,48]) (i:Nat) (hi:i<ks.length) (A:Option Addr) (cb:Nat) (b:J.B) (hb:b.length<(X.aF ks i).at_+(X.aF ks i).len),Calls Tryz.prog 25 #[.pointer (some ⟨pf,0,none⟩), .int .i64 (i:Nat), .slice A b.length cb] w λe w'=>e= .returned (.tuple #[.slice none 0 0, .string ⟨#[52,52]⟩])∧At w0 p ((pf,ax p nm size g ks.length c {f with at_:=[],same:=false,lost:=true,read:=false})::fs) s w')∧(∀{w0:World} {p pf g c size ct:Nat} {nm:J.B} {ks:List X.Ky} {rows:List X.Row} {f:Fv} {w:World} {s:J.St} {fs:List (Nat×Obj)} {ok:Obj} (h:At w0 p ((pf,ax p nm size g ks.length c f)::fs) s w) (hf:∀x∈fs,x.1≠pf) (bC:(g,ok)∈fs) (hO:bJ ok ks) (ht:J.Two s) (hX:XF nm size ks rows ct s.now) (hs:X.bM [52,55] [1,3] f.mode=[48,48]) (k:Int) (hk:k<0∨ks.length≤k) (A:Option Addr) (cb:Nat) (b:J.B),Calls Tryz.prog 25 #[.pointer (some ⟨pf,0,none⟩), .int .i64 k, .slice A b.length cb] w λe w'=>e= .returned (.tuple #[.slice none 0 0, .string ⟨#[50,51]⟩])∧At w0 p ((pf,ax p nm size g ks.length c {f with at_:=[],same:=false,lost:=true,read:=false})::fs) s w'):=by
 refine⟨?z0, ?z1⟩
 case' z0=>intro w0 p pf g c size ct nm ks rows f w s fs ok h hf bC hO ht hX hs i hi A cb b hb
 case' z1=>(intro w0 p pf g c size ct nm ks rows f w s fs ok h hf bC hO ht hX hs k hk A cb b;have aH:=trivial)
 all_goals
  have hlt:=(ai (h.get af)).1;have hlt:pf<w.heap.size:=hlt;have dD:=ae (bG (h.get af) [52,55] [1,3] 2 #[.int .u8 1, .int .u8 3] rfl rfl (by decide) w.heap.size rfl);rw[hs]at dD;have HA:=ae (h.below ((ak _ w).alloc (aq _) (.cells #[.int .u8 1, .int .u8 3] 32)));have HF:=ae (λw1 (hh:At w0 p ((pf,ax p nm size g ks.length c f)::fs) s w1) w2 (hg:w1.grownBy w2 (some pf)) (hr:w2.heap[pf]? =some (ax p nm size g ks.length c {f with at_:=[],same:=false,lost:=true,read:=false}))=>cz hh hf ht hg hr);first
   |have aH:=aH
    clear hf bC hO ht hX
   |have gp:=ae (λw1 (hh:At w0 p ((pf,ax p nm size g ks.length c {f with at_:=[],same:=false,lost:=true,read:=false})::fs) s w1)=>hO.2 w1 g (hh.get (ag _ bC)))
    have Lg:(i:Int)<(ks.length:Nat):=(by omega);have Ff:¬(i:Int)<0:=(by omega);have OD:¬(ks.length:Int)≤(i:Nat):=(by omega);have nT:=hX.ks.key _ (X.aU hi);have hsize:=hX.ks.size;have hwr:wrap64 (((X.aF ks i).at_:Int)+((X.aF ks i).len:Int))=((X.aF ks i).at_:Int)+((X.aF ks i).len:Int):=IntWalk.wrap64_in _ (by omega);have hbl:(b.length:Int)<((X.aF ks i).at_:Int)+((X.aF ks i).len:Int):=(by omega);generalize(X.aF ks i).at_+(X.aF ks i).len=dummy at hb;clear hf bC hO ht hX nT hsize hb dummy
  clear h hs;go_enter Tryz.func25,Tryz.ntmps25;go_wp2_with fail;refine dD.out.mono ?_;rintro e W1 ⟨rfl,hW1⟩;subst hW1;clear dD;refine aM (λX=>At w0 p ((pf,ax p nm size g ks.length c f)::fs) s X∧Below w.heap.size w X) ⟨HA.out,(ak _ w).alloc (aq _) _⟩ ?_;rintro W ⟨ha,sH⟩;clear HA;go_wp2_with fail;refine(lV (ha.get af)).mono ?_;rintro e W2 ⟨⟨_,rfl⟩,hg,hr⟩;have ha2:=HF.out _ ha _ hg hr;have br:Hid (w.heap.size≤W2.heap.size):=ae (aw sH.size hg.size);clear hg hr HF ha sH;first
   |have aH:=aH
    have fE:=ae ha2
    skip
   |skip
  have hc:=aj W2 pf (ha2.get (af:(pf,ax p nm size g ks.length c {f with at_:=[],same:=false,lost:=true,read:=false})∈(pf,ax p nm size g ks.length c {f with at_:=[],same:=false,lost:=true,read:=false})::fs));first
   |have aH:=aH
    clear ha2;rcases hk with hk|hk
    ·go_wp2;go_ret2;exact⟨rfl,fE.out⟩
    ·have ej:¬k<0:=(by omega);go_wp2;go_ret2;exact⟨rfl,fE.out⟩
   |have bY:=gp.out _ ha2
    have k1:=bY.at_ hi;have k2:=bY.len hi;have k3:=bY.dup hi;have fE:=ae ha2;have HZ:=ae (heap_alloc_new W2 dN);clear ha2 bY;go_wp2_with (refine wpList_store_row rfl _ _ 66 rfl W2.heap.size rfl _ rfl _ _ HZ.out rfl (by kernel_rfl) rfl ?_);intro W3 hrow hg hsz;obtain⟨rI,hb3⟩:=fE.out.stored dN hg;have hrow:W3.heap[W2.heap.size]? =some (aP (X.aF ks i)):=hrow;have cU:=ae rI;have cX:Hid (w.heap.size≤W3.heap.size):=ae (aw br.out hb3.size);clear hc k1 k2 k3 fE HZ hg hsz rI hb3 br;have hcb:=aj W3 W2.heap.size hrow;go_wp2;go_ret2;exact⟨rfl,cU.out⟩
abbrev AR:= @LF.1
abbrev Hi:= @LF.2
theorem Sj:(∀{w0:World} {p pf g c size ct:Nat} {nm:J.B} {ks:List X.Ky} {rows:List X.Row} {f:Fv} {w:World} {s:J.St} {fs:List (Nat×Obj)} {ok:Obj} (h:At w0 p ((pf,ax p nm size g ks.length c f)::fs) s w) (hf:∀x∈fs,x.1≠pf) (bC:(g,ok)∈fs) (hO:bJ ok ks) (ht:J.Two s) (hX:XF nm size ks rows ct s.now) (hs:X.bM [52,55] [1,3] f.mode=[48,48]) (i:Nat) (hi:i<ks.length) (A:Option Addr) (cb:Nat) (b:J.B) (dX:Src w0 p fs (.slice A b.length cb) b) (hb:(X.aF ks i).at_+(X.aF ks i).len≤b.length) (hbl:b.length≤1000000) (r:X.Row) (dK:((X.bQ ks i rows).find? λr=>decide (X.val ks i r.b=X.val ks i b))=some r),Calls Tryz.prog 25 #[.pointer (some ⟨pf,0,none⟩), .int .i64 (i:Nat), .slice A b.length cb] w λe w'=>∃v,e= .returned (.tuple #[v, .string ⟨(gQ ks rows i r).toArray⟩])∧bT w' (· <w.heap.size) v r.b∧At w0 p ((pf,ax p nm size g ks.length c {f with key:=i,at_:=X.aN nm ks i r,same:=false,lost:=false,last:=X.val ks 0 r.b,read:=true})::fs) s w')∧(∀{w0:World} {p pf g c size ct:Nat} {nm:J.B} {ks:List X.Ky} {rows:List X.Row} {f:Fv} {w:World} {s:J.St} {fs:List (Nat×Obj)} {ok:Obj} (h:At w0 p ((pf,ax p nm size g ks.length c f)::fs) s w) (hf:∀x∈fs,x.1≠pf) (bC:(g,ok)∈fs) (hO:bJ ok ks) (ht:J.Two s) (hX:XF nm size ks rows ct s.now) (hs:X.bM [52,55] [1,3] f.mode=[48,48]) (i:Nat) (hi:i<ks.length) (A:Option Addr) (cb:Nat) (b:J.B) (dX:Src w0 p fs (.slice A b.length cb) b) (hb:(X.aF ks i).at_+(X.aF ks i).len≤b.length) (hbl:b.length≤1000000) (dK:((X.bQ ks i rows).find? λr=>decide (X.val ks i r.b=X.val ks i b))=none),Calls Tryz.prog 25 #[.pointer (some ⟨pf,0,none⟩), .int .i64 (i:Nat), .slice A b.length cb] w λe w'=>e= .returned (.tuple #[.slice none 0 0, .string ⟨#[50,51]⟩])∧At w0 p ((pf,ax p nm size g ks.length c {f with at_:=[],same:=false,lost:=true,read:=false})::fs) s w'):=by
 refine⟨?z0, ?z1⟩
 case' z0=>intro w0 p pf g c size ct nm ks rows f w s fs ok h hf bC hO ht hX hs i hi A cb b dX hb hbl r dK
 case' z1=>(intro w0 p pf g c size ct nm ks rows f w s fs ok h hf bC hO ht hX hs i hi A cb b dX hb hbl dK;have aH:=trivial)
 all_goals
  have hlt:=(ai (h.get af)).1;have hlt:pf<w.heap.size:=hlt;have dD:=ae (bG (h.get af) [52,55] [1,3] 2 #[.int .u8 1, .int .u8 3] rfl rfl (by decide) w.heap.size rfl);rw[hs]at dD;have HA:=ae (h.below ((ak _ w).alloc (aq _) (.cells #[.int .u8 1, .int .u8 3] 32)));have HF:=ae (λw1 (hh:At w0 p ((pf,ax p nm size g ks.length c f)::fs) s w1) w2 (hg:w1.grownBy w2 (some pf)) (hr:w2.heap[pf]? =some (ax p nm size g ks.length c {f with at_:=[],same:=false,lost:=true,read:=false}))=>cz hh hf ht hg hr);have gp:=ae (λw1 (hh:At w0 p ((pf,ax p nm size g ks.length c {f with at_:=[],same:=false,lost:=true,read:=false})::fs) s w1)=>hO.2 w1 g (hh.get (ag _ bC)));have Lg:(i:Int)<(ks.length:Nat):=(by omega);have Ff:¬(i:Int)<0:=(by omega);have OD:¬(ks.length:Int)≤(i:Nat):=(by omega);have nT:=hX.ks.key _ (X.aU hi);have hsize:=hX.ks.size;have hwr:wrap64 (((X.aF ks i).at_:Int)+((X.aF ks i).len:Int))=((X.aF ks i).at_:Int)+((X.aF ks i).len:Int):=IntWalk.wrap64_in _ (by omega);have oU:(X.val ks i b).length=X.lens ks i:=by
   unfold X.val X.lens X.Ky.val;rw[List.length_take,List.length_drop];omega
  have hl2:=hX.lens hi;have hpl:=X.gU nm i;have nA:=hX.nm;have hbn:¬(b.length:Int)<((X.aF ks i).at_:Int)+((X.aF ks i).len:Int):=(by omega);have HP:=ae (λW=>bL nm size (some ⟨g,0,none⟩) ks.length c i (by have:=hX.ks.one;omega) (by omega) W);have HV:=ae (λw1 (hh:At w0 p ((pf,ax p nm size g ks.length c {f with at_:=[],same:=false,lost:=true,read:=false})::fs) s w1)=>cw (X.aF ks i) (.slice A b.length cb) b bF w1 (dX _ _ _ fA hh) hb hbl);have xY:=λw1 (hh:At w0 p ((pf,ax p nm size g ks.length c {f with at_:=[],same:=false,lost:=true,read:=false})::fs) s w1)=>iA hh ⟨(X.pre nm i++X.val ks i b).toArray⟩ (X.pre nm i++X.val ks i b) true (by have:=hX.many;omega);rw[hX.con.rG hX.ks hX.rows (by have:=hX.ct;omega) hi oU,dK]at xY;have wZ:=ae xY;have e1:=fT (X.pre nm i) (X.val ks i b);have hs1:(⟨(X.pre nm i).toArray⟩:ByteArray).size≤1000:=(by rw[bh];omega);have hs2:(⟨(X.val ks i b).toArray⟩:ByteArray).size≤1000:=(by rw[bh];omega);have hv0:(X.aF ks i).val b=X.val ks i b:=rfl;rw[hv0]at HV;first
   |have aH:=aH
    skip
   |have hrr:r∈rows:=(X.bt ks i r rows).1 (X.cL dK).1
    have HF3:=ae (λw1 (hh:At w0 p ((pf,ax p nm size g ks.length c {f with at_:=[],same:=false,lost:=true,read:=false})::fs) s w1) w2 (hg:w1.grownBy w2 (some pf)) (hr:w2.heap[pf]? =some (ax p nm size g ks.length c {f with key:=i,at_:=[],same:=false,lost:=true,read:=false}))=>cz hh hf ht hg hr);have tC:=ae (λw1 (hh:At w0 p ((pf,ax p nm size g ks.length c {f with key:=i,at_:=[],same:=false,lost:=true,read:=false})::fs) s w1)=>wY hh hf bC hO ht hX hi r hrr);generalize gQ ks rows i r=st at tC⊢;clear hrr
  generalize(⟨(X.pre nm i).toArray⟩:ByteArray)=P at HP hs1 e1;generalize(⟨(X.val ks i b).toArray⟩:ByteArray)=V at HV hs2 e1;generalize(⟨(X.pre nm i++X.val ks i b).toArray⟩:ByteArray)=PV at wZ e1;clear hf bC hO ht hX nT hsize hb hbl dX oU hl2 hpl nA xY dK hv0;clear h hs;go_enter Tryz.func25,Tryz.ntmps25;go_wp2_with fail;refine dD.out.mono ?_;rintro e W1 ⟨rfl,hW1⟩;subst hW1;clear dD;refine aM (λX=>At w0 p ((pf,ax p nm size g ks.length c f)::fs) s X∧Below w.heap.size w X) ⟨HA.out,(ak _ w).alloc (aq _) _⟩ ?_;rintro W ⟨ha,sH⟩;clear HA;go_wp2_with fail;refine(lV (ha.get af)).mono ?_;rintro e W2 ⟨⟨_,rfl⟩,hg,hr⟩;have ha2:=HF.out _ ha _ hg hr;have br:Hid (w.heap.size≤W2.heap.size):=ae (aw sH.size hg.size);clear hg hr HF ha sH;have hc:=aj W2 pf (ha2.get (af:(pf,ax p nm size g ks.length c {f with at_:=[],same:=false,lost:=true,read:=false})∈(pf,ax p nm size g ks.length c {f with at_:=[],same:=false,lost:=true,read:=false})::fs));have bY:=gp.out _ ha2;have k1:=bY.at_ hi;have k2:=bY.len hi;have k3:=bY.dup hi;have fE:=ae ha2;have HZ:=ae (heap_alloc_new W2 dN);clear ha2 bY;go_wp2_with (refine wpList_store_row rfl _ _ 66 rfl W2.heap.size rfl _ rfl _ _ HZ.out rfl (by kernel_rfl) rfl ?_);intro W3 hrow hg hsz;obtain⟨rI,hb3⟩:=fE.out.stored dN hg;have hrow:W3.heap[W2.heap.size]? =some (aP (X.aF ks i)):=hrow;have cU:=ae rI;have cX:Hid (w.heap.size≤W3.heap.size):=ae (aw br.out hb3.size);clear hc k1 k2 k3 fE HZ hg hsz rI hb3 br;have hcb:=aj W3 W2.heap.size hrow;go_wp2_with fail;clear hcb hbn hwr;refine aD 8 (.rd 0 (.rd 1 (.rd 2 (.rd 3 (.rd 4 (.rd 6 (.rd 7 (.wr 5 .fin)))))))) (λw'=>At w0 p ((pf,ax p nm size g ks.length c {f with at_:=[],same:=false,lost:=true,read:=false})::fs) s w'∧w'.heap[W2.heap.size]? =some (aP (X.aF ks i))) (by kernel_rfl) (by kernel_rfl) (λc a d v w h=>by cases d<;>exact h) ⟨cU.out.below ((ak _ _).drew),hrow⟩ ?_;repeat
   refine az (v:= ?_) (by rfl) (by rfl) (λw' hS=> ?_) (λK hK=> ?_);rotate_left
   ·have hc:=aj w' pf (hS.1.get (af:(pf,ax p nm size g ks.length c {f with at_:=[],same:=false,lost:=true,read:=false})∈(pf,ax p nm size g ks.length c {f with at_:=[],same:=false,lost:=true,read:=false})::fs));have hcb:=aj w' W2.heap.size hS.2;clear hS;go_simp;try with_reducible rfl
   go_simp;refine hK _ ?_;clear hK K
  refine wpPm_write (by rfl) (λK hK=> ?_);go_simp;refine(HP.out _).mono ?_;rintro e W4 ⟨rfl,hb⟩;have hb:Below W3.heap.size W3 W4:=((ak _ W3).drew).trans hb;have cZ:=ae (cU.out.below hb);have eR:Hid (w.heap.size≤W4.heap.size):=ae (aw cX.out hb.size);have hrow4:=(hb.block W2.heap.size (ai hrow).1).trans hrow;refine hK.out _ _ (λw'=>At w0 p ((pf,ax p nm size g ks.length c {f with at_:=[],same:=false,lost:=true,read:=false})::fs) s w'∧w'.heap[W2.heap.size]? =some (aP (X.aF ks i))) (λ_ h=>h) ⟨cZ.out,hrow4⟩ ?_;clear hK K;clear hb hrow HP cX cU hrow4;show wpList _ _ _ _ _ _;go_wp2_with fail;refine(HV.out _ cZ.out).mono ?_;rintro e W5 ⟨rfl,hb⟩;have eI:=ae (cZ.out.below hb);have ed:Hid (w.heap.size≤W5.heap.size):=ae (aw eR.out hb.size);clear hb HV cZ eR;have hc:=aj W5 pf (eI.out.get (af:(pf,ax p nm size g ks.length c {f with at_:=[],same:=false,lost:=true,read:=false})∈(pf,ax p nm size g ks.length c {f with at_:=[],same:=false,lost:=true,read:=false})::fs));go_wp2_with fail;refine(wZ.out _ eI.out).mono ?_;rintro e W6 ⟨rfl,hb⟩;have dC:=ae (eI.out.below hb);have jt:Hid (w.heap.size≤W6.heap.size):=ae (aw ed.out hb.size);clear hb hc wZ eI ed;first
   |have aH:=aH
    skip
   |have h6:W6.heap[pf]? =some (ax p nm size g ks.length c {f with at_:=[],same:=false,lost:=true,read:=false}):=dC.out.get af
    have hz:=aC h6;have hc:=aj W6 pf h6;have cQ:=ae (HF3.out _ dC.out _ (aA (World.grownBy.refl W6 (some pf)) 6 (.int .i64 (i:Nat))) (aB h6 6 (.int .i64 (i:Nat))));clear h6 HF3 dC;go_wp2_with fail;refine(tC.out _ cQ.out).mono ?_;rintro e W8 ⟨v,rfl,Dk,ya⟩;have ig:=ae ya;have Hg:=ae (Dk.weak (M':=(· <w.heap.size)) (λk hk=>av hk (by simpa [World.setCell] using jt.out)));clear Dk ya tC hc hz
  go_wp2;go_ret2;first
   |have aH:=aH
    exact⟨rfl,dC.out⟩
    skip
   |exact⟨_,rfl,Hg.out,ig.out⟩
abbrev Dz:= @Sj.1
abbrev DA:= @Sj.2
end
end Go.Proofs.YtipljcmmokaokaaGreat
namespace Go.Proofs.YtipljcmmokaokaaGreat
open Go.RowKit Go.Lib Go.Maps Go.WideMaps Go.Sort
namespace X
theorem uJ {α:Type} [DecidableEq α]:∀(l m:List α),l.Nodup→(∀x∈l,x∈m)→l.length≤m.length
 |[],_,_,_=>Nat.zero_le _
 |a::t,m,h,hs=>by
  obtain⟨h1,h2⟩:=List.nodup_cons.1 h;have ha:=hs a af;have:=uJ t (m.erase a) h2 (λx hx=>(List.mem_erase_of_ne (λ(e:x=a)=>h1 (by rw[←e];exact hx))).2 (hs x (ag _ hx)));rw[List.length_erase_of_mem ha]at this;have:0<m.length:=List.length_pos_of_mem ha;rw[List.length_cons];omega
def mM (nm:B) (ks:List Ky) (rows:List Row) (c:Nat):List B:=own nm::((if 0<c then [cK nm]else [])++(List.range ks.length).flatMap λi=>rows.map (aN nm ks i))
theorem AU (nm:B) (ks:List Ky) (rows:List Row) (c:Nat):(mM nm ks rows c).length=1+(if 0<c then 1 else 0)+ks.length*rows.length:=by
 have h:∀l:List Nat,(l.flatMap λi=>rows.map (aN nm ks i)).length=l.length*rows.length:=λl=>by
  induction l with
  |nil=>simp
  |cons a t ih=>rw[List.flatMap_cons,List.length_append,ih,List.length_map,List.length_cons,Nat.succ_mul];omega
 unfold mM;rw[List.length_cons,List.length_append,h,List.length_range];split<;>simp<;>omega
section
variable {ks : List Ky} {size time : Nat} {rows : List Row} {nm a : B} {c : Nat} {now : List (B × B)}
theorem sI {k:B}:k∈mM nm ks rows c↔k=X.own nm∨(0<c∧k=cK nm)∨∃i,i<ks.length∧∃r∈rows,k=aN nm ks i r:=by
 unfold mM;rw[List.mem_cons,List.mem_append,List.mem_flatMap];have h1:k∈(if 0<c then [cK nm]else [])↔0<c∧k=cK nm:=by
  split
  ·rename_i h;simp[h]
  ·rename_i h;simp[h]
 rw[h1];constructor
 ·rintro(h|h|⟨i,hi,hk⟩)
  ·exact .inl h
  ·exact .inr (.inl h)
  ·obtain⟨r,hr,e⟩:=List.mem_map.1 hk;exact .inr (.inr ⟨i,List.mem_range.1 hi,r,hr,e.symm⟩)
 ·rintro(h|h|⟨i,hi,r,hr,e⟩)
  ·exact .inl h
  ·exact .inr (.inl h)
  ·exact .inr (.inr ⟨i,List.mem_range.2 hi,List.mem_map.2 ⟨r,hr,e.symm⟩⟩)
theorem iw.mem_keys (h:iw nm a ks rows c now) (hr:aQ ks size time rows) (ht:time<4294967296) (hk:1≤ks.length) (k:B):J.look now k≠none↔k∈mM nm ks rows c:=by
 rw[sI];constructor
 ·intro hn;rcases h.oth k hn with e|e|⟨p,e⟩|⟨i,p,t,h1,h2,h3,e⟩
  ·exact .inl e
  ·refine .inr (.inl ⟨?_,e⟩);subst e;rw[h.tim]at hn;by_cases hc:0<c
   ·exact hc
   ·rw[if_neg hc]at hn;exact absurd rfl hn
  ·subst e;cases hl:J.look now (bS nm 0 p 0)with
   |none=>exact absurd hl hn
   |some v=>
    obtain⟨r,hr1,e1,_⟩:=(h.pri p v).1 hl;refine .inr (.inr ⟨0,by omega,r,hr1, ?_⟩);unfold aN;rw[e1,hr.t0 r hr1]
  ·subst e;cases hl:J.look now (bS nm i p t)with
   |none=>exact absurd hl hn
   |some v=>
    obtain⟨r,hr1,e1,e2,_⟩:=(h.alt i p t v h1 h2 h3).1 hl;refine .inr (.inr ⟨i,h2,r,hr1, ?_⟩);unfold aN;rw[e1,e2]
 ·rintro(e|⟨hc,e⟩|⟨i,hi,r,hr1,e⟩)
  ·subst e;rw[h.own];intro e;cases e
  ·subst e;rw[h.tim,if_pos hc];intro e;cases e
  ·subst e;exact h.zJ hr ht hi hr1
theorem vX (hr:aQ ks size time rows) (ht:time<4294967296) (hk:ks.length≤256):(mM nm ks rows c).Nodup:=by
 have h2:∀k∈(List.range ks.length).flatMap (λi=>rows.map (aN nm ks i)),∃i r,k=aN nm ks i r:=λk hk=>by
  obtain⟨i,_,hi⟩:=List.mem_flatMap.1 hk;obtain⟨r,_,e⟩:=List.mem_map.1 hi;exact⟨i,r,e.symm⟩
 unfold mM;refine List.nodup_cons.2 ⟨λhm=> ?_,List.nodup_append.2 ⟨by split<;>simp, ?_,λx hx y hy e=> ?_⟩⟩
 ·rcases List.mem_append.1 hm with h|h
  ·split at h
   ·simp only[List.mem_singleton]at h;exact tV nm h
   ·cases h
  ·obtain⟨i,r,e⟩:=h2 _ h;exact fh nm _ _ _ e
 ·refine List.pairwise_flatMap.2 ⟨λi hi=> ?_, ?_⟩
  ·rw[List.pairwise_map];have FA:=List.mem_range.1 hi;refine List.Pairwise.imp_of_mem (λ{x y} hx hy Gs=> ?_) (hr.zI FA);intro e;obtain⟨_,e1,e2⟩:=oC (by omega) (by omega) (hr.t32 ht hx FA) (hr.t32 ht hy FA) (λe=>by subst e;exact hr.t0 x hx) (λe=>by subst e;exact hr.t0 y hy) e;rcases Gs with h|h
   ·exact h e1
   ·exact h e2
  ·refine List.Pairwise.imp_of_mem (λ{i j} hi hj rv=> ?_) (List.nodup_range (n:=ks.length));intro x hx y hy e;obtain⟨r,hr1,rfl⟩:=List.mem_map.1 hx;obtain⟨q,Kh,rfl⟩:=List.mem_map.1 hy;have h1:=List.mem_range.1 hi;have h2:=List.mem_range.1 hj;exact rv (mB (by omega) (by omega) e)
 ·split at hx
  ·simp only[List.mem_singleton]at hx;subst hx;obtain⟨i,r,e2⟩:=h2 y hy;exact iv nm _ _ _ (e.trans e2)
  ·cases hx
theorem Hj {m:List (B×B)} (h:J.ri m):(m.map (·.1)).Nodup:=by
 refine List.pairwise_map.2 (List.Pairwise.imp (λ{x y} Gs e=> ?_) h);rw[e]at Gs;exact List.lt_irrefl _ Gs
theorem mN {m:List (B×B)} (h:J.ri m) (k:B):k∈m.map (·.1)↔J.look m k≠none:=by
 constructor
 ·intro hk;obtain⟨⟨k',v⟩,hm,rfl⟩:=List.mem_map.1 hk;rw[J.ew m k' v h hm];intro e;cases e
 ·intro hn;cases hl:J.look m k with
  |none=>exact absurd hl hn
  |some v=>exact List.mem_map.2 ⟨_,J.dZ m k v hl,rfl⟩
theorem iw.count (h:iw nm a ks rows c now) (hr:aQ ks size time rows) (ht:time<4294967296) (h1:1≤ks.length) (hk:ks.length≤256):now.length=1+(if 0<c then 1 else 0)+ks.length*rows.length:=by
 rw[←AU nm ks rows c];have e:now.length=(now.map (·.1)).length:=(List.length_map ..).symm;rw[e];refine Nat.le_antisymm (uJ _ _ (Hj h.asc) (λx hx=>(h.mem_keys hr ht h1 x).1 ((mN h.asc x).1 hx))) (uJ _ _ (vX hr ht hk) (λx hx=>(mN h.asc x).2 ((h.mem_keys hr ht h1 x).2 hx)))
theorem iw.Fc (h:iw nm a ks rows c now) (hr:aQ ks size time rows) (hk:eo ks size) {n:Nat} (hn:∀i,i<ks.length→lens ks i≤n) {k:B} (hm:k∈now.map (·.1)) (ht:time<4294967296):k.length≤nm.length+n+7:=by
 rcases sI.1 ((h.mem_keys hr ht hk.one.1 k).1 ((mN h.asc k).1 hm))with e|⟨_,e⟩|⟨i,hi,r,hr1,e⟩
 ·subst e;rw[mz];omega
 ·subst e;rw[ru];omega
 ·subst e;have h1:=cR nm i (val ks i r.b) (r.t i);have h2:=aV (hr.fit r hr1) hi;have h3:=hn i hi;show(bS nm i _ _).length≤_;omega
end
end X
namespace X
section
variable {ks : List Ky} {size time : Nat} {rows : List Row} {nm a : B} {c n : Nat} {now : List (B × B)} {P : B → B → Prop} {E : Nat → B → Nat → B → Prop}
theorem rJ (h:eP nm a ks.length c (lens ks) P E now) {i:Nat} (h0:i≠0) (hi:i<ks.length) (hE:∀p t q,E i p t q↔Ee ks rows i p t q) (hr:aQ ks size time rows) (ht:time<4294967296) {r:Row} (hm:r∈rows):J.look now (aN nm ks i r)=some (val ks 0 r.b):=
 (h.alt i (val ks i r.b) (r.t i) (val ks 0 r.b) (by omega) hi (hr.t32 ht hm hi)).2 ((hE _ _ _).2 ⟨r,hm,rfl,rfl,rfl,hi⟩)
theorem Hk (h:eP nm a ks.length c (lens ks) P E now) (hk:ks.length≤256) {i:Nat} (h0:i≠0) (hi:i<ks.length) (hE:∀p t q,E i p t q↔Ee ks rows i p t q) (hr:aQ ks size time rows) (hc:time<4294967296) (v:B) (hv:v.length=lens ks i):
  keysOf now ⟨(pre nm i++v).toArray⟩=((bQ ks i rows).filter λr=>decide (val ks i r.b=v)).map (aN nm ks i):=by
 unfold keysOf;rw[qB];refine mA _ _ (List.Pairwise.filter _ (List.pairwise_map.2 h.asc)) ?_ (λk=> ?_)
 ·rw[List.pairwise_map];refine List.Pairwise.imp_of_mem (λ{x y} hx hy Gs=> ?_) (List.Pairwise.filter _ (mD ks i rows (hr.zI hi)));exact(xG hr hc hi ((bt ks i x rows).1 (List.mem_filter.1 hx).1) ((bt ks i y rows).1 (List.mem_filter.1 hy).1)).2 Gs
 ·rw[List.mem_filter];constructor
  ·rintro⟨fP,hk2⟩;refine List.mem_map.2 ?_;obtain⟨⟨k',x⟩,hm,rfl⟩:=List.mem_map.1 fP;have hk2:Lib.hasPrefix k' (pre nm i++v)=true:=hk2;have hlk:=J.ew now k' x h.asc hm;rcases h.oth k' (by rw[hlk];intro e;cases e)with rfl|rfl|⟨p,rfl⟩|⟨j',p,t,j1,j2,Js,rfl⟩
   ·rw[pz]at hk2;cases hk2
   ·rw[tW]at hk2;cases hk2
   ·rw[eJ (by omega) (by decide) (by omega)]at hk2;cases hk2
   ·by_cases rv:i=j'
    ·subst rv;have h9:=(hE _ _ _).1 ((h.alt i p t x j1 j2 Js).1 hlk);obtain⟨r,fp,e1,e2,e3,_⟩:=h9;have hl:p.length=lens ks i:=(by rw[←e1,aV (hr.fit r fp) hi]);rw[dz (by omega),hv,←hl,List.take_length]at hk2;refine⟨r,List.mem_filter.2 ⟨(bt ks i r rows).2 fp,by rw[e1];exact hk2⟩, ?_⟩;show bS nm i (val ks i r.b) (r.t i)=_;rw[e1,e2]
    ·rw[eJ (by omega) (by omega) rv]at hk2;cases hk2
  ·intro Wv;obtain⟨r,Tg,rfl⟩:=List.mem_map.1 Wv;obtain⟨fp,hd⟩:=List.mem_filter.1 Tg;have fp:=(bt ks i r rows).1 fp;have hl:(val ks i r.b).length=lens ks i:=aV (hr.fit r fp) hi;refine⟨List.mem_map.2 ⟨_,J.dZ now _ _ (rJ h h0 hi hE hr hc fp),rfl⟩, ?_⟩;show Lib.hasPrefix (bS nm i _ _) _=true;rw[dz (by omega),hv,←hl,List.take_length];exact hd
def LG (nm a:B) (ks:List Ky) (c:Nat) (rows:List Row) (p0:B) (j:Nat) (now:List (B×B)):Prop:=
 eP nm a ks.length c (lens ks) (Pp ks (iB ks rows p0)) (λi p t q=>if i≤j then Ee ks (iB ks rows p0) i p t q else Ee ks rows i p t q) now
theorem Px (hr:aQ ks size time rows) {p0:B} {o:Row} (ho:o∈rows) (hp:val ks 0 o.b=p0) {i:Nat} (h1:1≤i) (hi:i<ks.length) (p:B) (t:Nat) (q:B):
  Ee ks (iB ks rows p0) i p t q↔¬(p=val ks i o.b∧t=o.t i)∧Ee ks rows i p t q:=by
 constructor
 ·rintro⟨r,hm,e1,e2,e3,_⟩;obtain⟨h3,h4⟩:=ie.1 hm;refine⟨λhh=> ?_,r,h3,e1,e2,e3,hi⟩;have:r=o:=Ll (hr.tm i h1 hi) h3 ho (e2.trans hh.2);subst this;exact h4 hp
 ·rintro⟨h5,r,h3,e1,e2,e3,_⟩;refine⟨r,ie.2 ⟨h3,λe=> ?_⟩,e1,e2,e3,hi⟩;have:r=o:=qC hr.prim h3 ho (e.trans hp.symm);subst this;exact h5 ⟨e1.symm,e2.symm⟩
theorem sJ (hr:aQ ks size time rows) {p0:B} {j:Nat}:∀i p t q,(if i≤j then Ee ks (iB ks rows p0) i p t q else Ee ks rows i p t q)→p.length=lens ks i:=λi p t q hh=>by
 split at hh
 ·obtain⟨r,h1,rfl,_,_,hi⟩:=hh;exact aV (hr.fit r (ie.1 h1).1) hi
 ·exact Dp hr hh
theorem DB (h:iw nm a ks rows c now) (hk:eo ks size) (hr:aQ ks size c rows) (p0:B):LG nm a ks c rows p0 0 (J.del now (bS nm 0 p0 0)):=by
 refine(eP.Kc h (by have:=hk.one;omega) p0).same (λp v=> ?_) (λi p t q k1 k2=>by rw[if_neg (by omega)]) (sJ hr);constructor
 ·rintro⟨r,hm,e1,e2⟩;obtain⟨h3,h4⟩:=ie.1 hm;exact⟨by rw[←e1];exact h4,r,h3,e1,e2⟩
 ·rintro⟨h4,r,h3,e1,e2⟩;exact⟨r,ie.2 ⟨h3,by rw[e1];exact h4⟩,e1,e2⟩
theorem Hl (hk:eo ks size) (hr:aQ ks size c rows) (hc:c<4294967296) {p0:B} {o:Row} (ho:o∈rows) (hp:val ks 0 o.b=p0) {j:Nat} (hj:j+1<ks.length) (h:LG nm a ks c rows p0 j now):LG nm a ks c rows p0 (j+1) (J.del now (aN nm ks (j+1) o)):=by
 refine(eP.Fg h (by have:=hk.one;omega) (i0:=j+1) ⟨by omega,hj⟩ (val ks (j+1) o.b) (t0:=o.t (j+1)) (hr.t32 hc ho hj)).same (λ_ _=>Iff.rfl) (λi p t q k1 k2=> ?_) (sJ hr);by_cases e:i=j+1
 ·subst e;rw[if_pos (Nat.le_refl _),if_neg (by omega),Px hr ho hp k1 k2];exact⟨λhh=>⟨λx=>hh.1 ⟨x.2.1,x.2.2⟩,hh.2⟩,λhh=>⟨λx=>hh.1 ⟨rfl,x.1,x.2⟩,hh.2⟩⟩
 ·by_cases e2:i≤j
  ·rw[if_pos e2,if_pos (by omega)];exact⟨λhh=>⟨λx=>e x.1,hh⟩,λhh=>hh.2⟩
  ·rw[if_neg e2,if_neg (by omega)];exact⟨λhh=>⟨λx=>e x.1,hh⟩,λhh=>hh.2⟩
theorem LH {p0:B} {j:Nat} (hj:ks.length≤j+1) (hr:aQ ks size c rows) (h:LG nm a ks c rows p0 j now):iw nm a ks (iB ks rows p0) c now:=by
 refine eP.same h (λ_ _=>Iff.rfl) (λi p t q k1 k2=>by rw[if_pos (by omega)]) (λi p t q hh=> ?_);obtain⟨r,h1,rfl,_,_,hi⟩:=hh;exact aV (hr.fit r (ie.1 h1).1) hi
end
end X
namespace R
theorem mC (p:B) (x y:B):(p++x).isPrefixOf (p++y)=x.isPrefixOf y:=by
 induction p with
 |nil=>rfl
 |cons a p ih=>simp only[List.cons_append,List.isPrefixOf,ih,beq_self_eq_true,Bool.true_and]
theorem FB (nm:B) (x:B):Lib.hasPrefix (nm++0::x) (nm++[0])=true:=by
 unfold Lib.hasPrefix;rw[mC];rfl
theorem uB (nm a:B) (rows:Rows):keysOf (Wu nm (some a) rows) ⟨(nm++[0]).toArray⟩=own nm::rows.map λr=>key nm r.1:=by
 unfold keysOf Wu;have e:(⟨(nm++[0]).toArray⟩:ByteArray).data.toList=nm++[0]:=rfl;rw[e,List.map_cons,List.map_map];rw[List.filter_eq_self.2 (λk hk=>by
  rcases List.mem_cons.1 hk with rfl|hk
  ·exact FB nm [65]
  ·obtain⟨r,_,rfl⟩:=List.mem_map.1 hk;show Lib.hasPrefix (key nm r.1) _=true;unfold key recs;rw[List.append_assoc];exact FB nm (82::bI r.1))]
 rfl
end R
end Go.Proofs.YtipljcmmokaokaaGreat
namespace Go.Proofs.YtipljcmmokaokaaGreat
open Go.RowKit Go.Lib Go.Maps Go.WideMaps Go.Sort
set_option maxRecDepth 100000
abbrev pT (n:Nat):Value:= .int .i64 (n:Nat)
theorem Tryz.TQ:(Tryz.prog.info? 52).map (λi=>(i.zero,i.size,i.bytes))=some (some (.agg #[.string ⟨#[]⟩, .slice none 0 0]),2,40):=by kernel_rfl
abbrev HP:=X.Row×Value
def aY (l:List HP):List Value:=l.flatMap λp=>[encStr p.1.b,p.2]
theorem sK (l:List HP):(aY l).length=l.length*2:=by induction l with|nil=>rfl|cons a t ih=>simp[aY]at*;omega
theorem sL (a b:List HP):aY (a++b)=aY a++aY b:=by simp[aY]
theorem kf:∀(l:List HP) (k:Nat) (h:k<l.length),(aY l)[k*2]? =some (encStr l[k].1.b)∧(aY l)[k*2+1]? =some l[k].2
 |[],k,h=>by simp at h
 |a::t,0,h=>⟨rfl,rfl⟩
 |a::t,k+1,h=>by
  have:=kf t k (by simpa using h);rw[show(k+1)*2=k*2+2 by omega]
  simpa [aY] using this
def oc (v:Value):Prop:=∃A n c,v= .slice A n c
theorem AV (l:List HP) (h:∀x∈l,oc x.2):∀u∈aY l,u.oneCell'=true:=by
 intro u hu;simp only[aY,List.mem_flatMap,List.mem_cons,List.not_mem_nil,or_false]at hu;obtain⟨p,hp,rfl|rfl⟩:=hu
 ·rfl
 ·obtain⟨A,n,c,e⟩:=h p hp;rw[e];rfl
theorem yb (l:List HP) (i:Nat):aY (l.drop i)=(aY l).drop (i*2):=by
 induction i generalizing l with
 |zero=>simp
 |succ i ih=>
  cases l with
  |nil=>simp[aY]
  |cons a t=>rw[List.drop_succ_cons,ih,show(i+1)*2=i*2+2 by omega];simp[aY]
def mO (w:World) (M:Nat→Prop) (v:Value) (ts:List Nat):Prop:=∃g c,v= .slice (some ⟨g,0,none⟩) ts.length c∧g<w.heap.size∧¬M g∧∀j (h:j<ts.length),w.cell? ⟨g,j,none⟩=some (pT ts[j])
def nw (w:World) (A:Option Addr) (l:List HP):Prop:=0<l.length→∃g o,A=some ⟨g,o,none⟩∧g<w.heap.size∧∀j u,(aY l)[j]? =some u→w.cell? ⟨g,o+j,none⟩=some u
def qJ (w:World) (A:Option Addr) (l:List HP):Prop:=0<l.length→∃g,A=some ⟨g,0,none⟩∧g<w.heap.size∧∀j u,(aY l)[j]? =some u→w.cell? ⟨g,j,none⟩=some u
theorem qJ.o {w:World} {A:Option Addr} {l:List HP} (h:qJ w A l):nw w A l:=λhn=>by
 obtain⟨g,e,h1,h2⟩:=h hn;exact⟨g,0,e,h1,λj u hu=>by rw[Nat.zero_add];exact h2 j u hu⟩
theorem nw.below {w w':World} {A:Option Addr} {l:List HP} (h:nw w A l) (hb:Below w.heap.size w w'):nw w' A l:=λhn=>by
 obtain⟨g,o,e,h1,h2⟩:=h hn;exact⟨g,o,e,av h1 hb.size,λj u hu=>(hb.cell (p:=⟨g,o+j,none⟩) h1).trans (h2 j u hu)⟩
theorem qJ.below {w w':World} {A:Option Addr} {l:List HP} (h:qJ w A l) (hb:Below w.heap.size w w'):qJ w' A l:=λhn=>by
 obtain⟨g,e,h1,h2⟩:=h hn;exact⟨g,e,av h1 hb.size,λj u hu=>(hb.cell (p:=⟨g,j,none⟩) h1).trans (h2 j u hu)⟩
structure mP (w:World) (M:Nat→Prop) (v:Value) (l:List HP):Prop where
 row:(v= .slice none 0 0∧l=[])∨∃g c,v= .slice (some ⟨g,0,none⟩) l.length c∧l.length≤c∧g<w.heap.size∧¬M g∧∀j u,(aY l)[j]? =some u→w.cell? ⟨g,j,none⟩=some u
 tm:∀x∈l,mO w M x.2 x.1.ts
section
variable {w w' : World} {M M' : Nat → Prop} {v : Value} {l : List HP} {ts : List Nat}
theorem mO.sl (h:mO w M v ts):oc v:=by obtain⟨g,c,e,_⟩:=h;exact⟨_,_,_,e⟩
theorem mO.keep (h:mO w M v ts) (hs:w.heap.size≤w'.heap.size) (hb:∀g,g<w.heap.size→¬M g→w'.heap[g]? =w.heap[g]?) (hM:∀g,g<w.heap.size→M' g→M g):mO w' M' v ts:=by
 obtain⟨g,c,e,h1,h2,h3⟩:=h;exact⟨g,c,e,av h1 hs,λhh=>h2 (hM g h1 hh),λj hj=>(World.cell?_of_block (hb g h1 h2)).trans (h3 j hj)⟩
theorem mO.below (h:mO w M v ts) (hb:Below w.heap.size w w'):mO w' M v ts:=h.keep hb.size (λg hg _=>hb.block g hg) (λ_ _ h=>h)
theorem mP.keep (h:mP w M v l) (hs:w.heap.size≤w'.heap.size) (hb:∀g,g<w.heap.size→¬M g→w'.heap[g]? =w.heap[g]?) (hM:∀g,g<w.heap.size→M' g→M g):mP w' M' v l:=by
 refine⟨?_,λx hx=>(h.tm x hx).keep hs hb hM⟩;rcases h.row with h|⟨g,c,e,h1,h2,h3,h4⟩
 ·exact .inl h
 ·exact .inr ⟨g,c,e,h1,av h2 hs,λhh=>h3 (hM g h2 hh),λj u hu=>(World.cell?_of_block (hb g h2 h3)).trans (h4 j u hu)⟩
theorem mP.below (h:mP w M v l) (hb:Below w.heap.size w w'):mP w' M v l:=h.keep hb.size (λg hg _=>hb.block g hg) (λ_ _ h=>h)
theorem mP.weak (h:mP w M v l) (hM:∀k,M' k→M k):mP w M' v l:=h.keep (aq _) (λ_ _ _=>rfl) (λg _ hh=>hM g hh)
theorem mP.ey:mP w M (.slice none 0 0) []:=⟨.inl ⟨rfl,rfl⟩,λx hx=>by cases hx⟩
theorem mP.ZG (h:mP w M v l):∀x∈l,oc x.2:=λx hx=>(h.tm x hx).sl
theorem mP.cP (h:mP w M v l):∃A c,v= .slice A l.length c∧l.length≤c∧qJ w A l∧(A=none→c=0)∧(∀b o,A=some ⟨b,o,none⟩→o=0):=by
 rcases h.row with⟨rfl,rfl⟩|⟨g,c,rfl,h1,h2,h3,h4⟩
 ·exact⟨none,0,rfl,aq _,λh=>absurd h (by simp),λ_=>rfl,λ_ _ e=>by cases e⟩
 ·exact⟨_,c,rfl,h1,λ_=>⟨g,rfl,h2,h4⟩,λe=>(by cases e),λb o e=>by injection e with e;injection e with _ e;exact e.symm⟩
theorem qK {base:Nat} (h:w.ownsRow base 52 2 v l.length (aY l)) (hM:∀k,M k→k<base) (ht:∀x∈l,mO w M x.2 x.1.ts):mP w M v l:=by
 refine⟨?_,ht⟩;have h':=h;rcases h.2 with⟨rfl,h0⟩|⟨g,cap,cur,rfl,hbase,hb,h1,h2⟩
 ·exact .inl ⟨by rfl,List.eq_nil_of_length_eq_zero h0⟩
 ·refine .inr ⟨g,cap,rfl,h1,(ai hb).1,λhm=>by have:=hM g hm;omega,λj u hu=> ?_⟩;have hj:j<l.length*2:=by
   have:=(List.getElem?_eq_some_iff.1 hu).1;rw[sK]at this;exact this
  rw[h'.cellAt j hj,hu]
end
theorem uK (w:World) (base:Nat) (v:Value) (n:Nat) (l:List HP) (hown:w.ownsRow base 52 2 v n (aY l)) (A:Option Addr) (m c:Nat) (x:List HP) (hx:nw w A x) (hm:x.length=m) (h1:∀y∈x,oc y.2)
  (hb:n+m≤100000000) (hbase:base≤w.heap.size) (ty:TypeId):
  ∃v' w',(Builtin.append_ #[31,31] ty #[v, .slice A m c]).run Tryz.prog w= .ok v' w'∧w'.ownsRow base 52 2 v' (n+m) (aY (l++x))∧w.grownBy w' v.ownBlock∧(v'.ownBlock=v.ownBlock∨v'.ownBlock=some w.heap.size):=by
 obtain⟨i0,hi,hz0,hz1,hz2⟩:=info_parts Tryz.TQ;rcases Nat.eq_zero_or_pos m with h0|h0
 ·subst h0;obtain rfl:x=[]:=List.eq_nil_of_length_eq_zero hm;exact⟨v,w,jV w base _ ty _ i0 2 Tryz.underlying31 hi v n _ hown A c,by simpa using hown,World.grownBy.refl w _, .inl rfl⟩
 ·obtain⟨g,o,rfl,_,hc⟩:=hx (by omega);obtain⟨v',w',hr,h1,h2,_,h4⟩:=run_append_own_at (P:=Tryz.prog) w base 31 ty 52 i0 (.agg #[.string ⟨#[]⟩, .slice none 0 0]) 2 40 Tryz.underlying31 hi hz0 hz1 hz2 rfl (by decide) v n (aY l) hown ⟨g,o,none⟩ m c (aY x) (by rw[sK,hm])
   (λj u hu=>by rw[gM];exact hc j u hu) (AV x h1) (by unfold maxLen;omega) (by omega) hbase
  exact⟨v',w',hr,by rw[sL];exact h1,h2,h4⟩
theorem fV {A:Option Addr} {l:List HP} {n c:Nat} (hn:l.length=n) (i j:Nat) (rv:i≤j) (hj:j≤n) (hc:n≤c) (low high:Option Value)
  (Kn:low=some (.int .i64 i)∨(low=none∧i=0)) (zP:high=some (.int .i64 j)∨(high=none∧j=n)) (hA:∀b o,A=some ⟨b,o,none⟩→o=0):
  ∃A',(∀w,(Instr.sliceAt 31 (.slice A n c) low high none).run Tryz.prog w= .ok (.slice A' (j - i) (c - i)) w)∧∀w,qJ w A l→nw w A' ((l.take j).drop i):=by
 have hb:∀w,(Instr.sliceBounds true n c low high none).run Tryz.prog w= .ok (i,j,c) w:=by
  intro w;have e1:(0:Int)≤(i:Int):=(by omega);have e2:(i:Int)≤(j:Int):=(by omega);have e3:(j:Int)≤(c:Int):=(by omega);have e0:(0:Int)≤(j:Int):=(by omega);rcases Kn with rfl|⟨rfl,rfl⟩<;>rcases zP with rfl|⟨rfl,rfl⟩
  ·simp[Instr.sliceBounds,run_sliceBound _ _ _ _ _ e1 e2,run_sliceBound _ _ _ _ _ e0 e3]
  ·simp[Instr.sliceBounds,run_sliceBound _ _ _ _ _ e1 e2]
  ·simp[Instr.sliceBounds,run_sliceBound _ _ _ _ _ e0 e3]
  ·simp[Instr.sliceBounds]
 have hsz:∀w,(sizeOf (Tryz.prog.elem 31)).run Tryz.prog w= .ok 2 w:=λw=>by kernel_rfl
 have hrun:∀w,(Instr.sliceAt 31 (.slice A n c) low high none).run Tryz.prog w= .ok (sliced A i j c 2) w:=by
  intro w;rw[run_sliceAt_slice _ _ _ _ _ _ Tryz.underlying31,run_slice_any _ _ _ _ _ Tryz.underlying31,hb];simp[Result.andThen,hsz]
 refine⟨_,hrun,λw h hlen=> ?_⟩;rw[List.length_drop,List.length_take]at hlen;obtain⟨g,rfl,hg,cq⟩:=h (by omega);refine⟨g,i*2, ?_,hg,λk u hu=> ?_⟩
 ·rw[if_neg (by omega)];simp[gM]
 ·rw[yb,List.getElem?_drop]at hu;refine cq _ _ ?_;have hk:=(List.getElem?_eq_some_iff.1 hu).1;rw[←hu]
  conv=>lhs;rw[←List.take_append_drop j l,sL]
  rw[List.getElem?_append_left hk]
theorem rK {base:Nat} (X:World) (hb:base≤X.heap.size):(X.alloc (.cells #[] 52)).ownsRow base 52 2 (.slice (some ⟨X.heap.size,0,none⟩) 0 0) 0 (aY []):=
 ⟨rfl, .inr ⟨X.heap.size,0,#[],rfl,hb,heap_alloc_new X _,aq _,Nat.zero_le _,rfl,rfl⟩⟩
theorem qL (V:World) (r:X.Row) (tv:Value):nw (V.alloc (.cells #[encStr r.b,tv] 52)) (some ⟨V.heap.size,0,none⟩) [(r,tv)]:=λ_=>by
 refine⟨V.heap.size,0,rfl,by simp,λj u hu=> ?_⟩;rw[Nat.zero_add,cell_of_row _ V.heap.size j _ _ _ (heap_alloc_new V _)];rw[←hu];simp[aY]
theorem nw.kept {w w':World} {g:Nat} {l:List HP} {row:Option Nat} (h:nw w (some ⟨g,0,none⟩) l) (hg:w.grownBy w' row) (hne:some g≠row):nw w' (some ⟨g,0,none⟩) l:=λhn=>by
 obtain⟨g',o,e,h1,h2⟩:=h hn;injection e with e;injection e with e1 e2 e3;subst e1 e2;exact⟨g,0,rfl,av h1 hg.size,λj u hu=>(World.cell?_of_block (hg.block g h1 hne)).trans (h2 j u hu)⟩
theorem dR {w:World} {o:Oper} {a:Act} {K:Act→World→Prop} {Q:Exit→Act→World→Prop} (s x:Operand) (ho:o.op= .call {callee:= .builtin .append,args:=#[s,x],argTypes:=#[31,31]})
  (base:Nat) (v:Value) (n:Nat) (l:List HP) (hs:a.eval s=v) (hown:w.ownsRow base 52 2 v n (aY l)) (A:Option Addr) (m c:Nat) (x':List HP) (hx:a.eval x= .slice A m c) (hr:nw w A x') (hm:x'.length=m) (h1:∀y∈x',oc y.2)
  (hb:n+m≤100000000) (hbase:base≤w.heap.size)
  (h:∀v' w',w'.ownsRow base 52 2 v' (n+m) (aY (l++x'))→w.grownBy w' v.ownBlock→(v'.ownBlock=v.ownBlock∨v'.ownBlock=some w.heap.size)→K (a.put o.dst v') w'):o.wp Tryz.prog a w K Q:=by
 obtain⟨v',w',hrun,h2,h3,h4⟩:=uK w base v n l hown A m c x' hr hm h1 hb hbase o.type;unfold Oper.wp execOp;simp only[ho,resolve,invoke,builtin,Sem.run_bind,Sem.run_pure,Result.andThen_ok,List.map_toArray,List.map_cons,List.map_nil,hs,hx,hrun];exact h v' w' h2 h3 h4
theorem eD {w:World} {ops:Array Oper} {rest:List Oper} {o:Oper} {a:Act} {Q:Exit→Act→World→Prop} (hgd:o.guard=none) (s x:Operand) (ho:o.op= .call {callee:= .builtin .append,args:=#[s,x],argTypes:=#[31,31]})
  (base:Nat) (v:Value) (n:Nat) (l:List HP) (hs:a.eval s=v) (hown:w.ownsRow base 52 2 v n (aY l)) (A:Option Addr) (m c:Nat) (x':List HP) (hx:a.eval x= .slice A m c) (hr:nw w A x') (hm:x'.length=m) (h1:∀y∈x',oc y.2)
  (hb:n+m≤100000000) (hbase:base≤w.heap.size)
  (h:∀v' w',w'.ownsRow base 52 2 v' (n+m) (aY (l++x'))→w.grownBy w' v.ownBlock→(v'.ownBlock=v.ownBlock∨v'.ownBlock=some w.heap.size)→wpList Tryz.prog ops Q rest (a.put o.dst v') w'):wpList Tryz.prog ops Q (o::rest) a w:=
 wpList_plain hgd λ_ hK=>dR s x ho base v n l hs hown A m c x' hx hr hm h1 hb hbase λv' w' h2 h3 h4=>hK _ _ (h v' w' h2 h3 h4)
section
variable {W W' : World} {base n sz : Nat} {e : TypeId} {v : Value} {xs : List Value}
theorem xa (h:W.ownsRow base e sz v n xs) (hs:∀k,v.ownBlock=some k→W'.heap[k]? =W.heap[k]?):W'.ownsRow base e sz v n xs:=by
 obtain⟨hl,h|⟨g,cap,cur,rfl,hb,hg,h1⟩⟩:=h
 ·exact⟨hl, .inl h⟩
 ·exact⟨hl, .inr ⟨g,cap,cur,rfl,hb,(hs g rfl).trans hg,h1⟩⟩
theorem cD (h:W.ownsRow base e sz v n xs) (hb:Below W.heap.size W W'):W'.ownsRow base e sz v n xs:=xa h (λk hk=>hb.block k (h.lt k hk).2)
theorem xb (h:W.ownsRow base e sz v n xs) {k:Nat} (hv:v.ownBlock=some k):∃cur,W.heap[k]? =some (.cells cur e (0,0)):=by
 rcases h.2 with⟨rfl,_⟩|⟨g,cap,cur,rfl,_,hg,_⟩
 ·cases hv
 ·have:g=k:=(by simpa [Value.ownBlock] using hv);subst this;exact⟨cur,hg⟩
theorem FC (h:W.ownsRow base e sz v n xs) {b:Nat} {cs:Array Value} {t:TypeId} {fr:Nat×Nat} (hr:W.heap[b]? =some (.cells cs t fr)) (ht:e≠t):v.ownBlock≠some b:=λhh=>by
 obtain⟨c2,a2⟩:=xb h hh;rw[a2]at hr;injection hr with hr;injection hr with _ hr;exact ht hr
theorem uL (h:W.ownsRow base e sz v n xs) {b:Nat} {cs:Array Value} {t:TypeId} {fr:Nat×Nat} (hr:W.heap[b]? =some (.cells cs t fr)) (ht:e≠t) (hg:W.grownBy W' v.ownBlock):W'.heap[b]? =some (.cells cs t fr):=
 (hg.block b (ai hr).1 (λhh=>FC h hr ht hh.symm)).trans hr
end
abbrev gF (m:X.M) (g c:Nat) (v:Value):Obj:=
 .cells #[.string ⟨#[102]⟩, .int .i64 (m.size:Nat), .slice (some ⟨g,0,none⟩) m.ks.length c, .bool m.there,v, .int .i64 (m.time:Nat), .int .u8 (m.mode:Nat), .bool m.ord, .int .i64 (m.key:Nat), .bool m.lost, .string ⟨m.value.toArray⟩, .int .i64 (m.at_:Nat), .bool m.same, .string ⟨m.last.toArray⟩, .bool m.read, .string ⟨m.written.toArray⟩] 34 (0,0)
structure ft (w:World) (q g c:Nat) (M:Nat→Prop) (m:X.M) (v:Value) (l:List HP):Prop where
 row:w.heap[q]? =some (gF m g c v)
 ks:dB w g m.ks
 ng:g≠q
 rows:mP w M v l
 nq:M q
 eq:l.map (·.1)=m.rows
def Hm (di:J.B) (a b c:Nat) (mode:Nat):J.B:=if mode=0 then [52,50]else if mode≠a∧mode≠b∧mode≠c then di else []
theorem Py {di:J.B} {a b c:Nat} {mode:Nat} {l:List Nat} (hl:∀x,x∈l↔x=a∨x=b∨x=c) (hw:di≠X.good) (h:X.bM di l mode=X.good):Hm di a b c mode=[]:=by
 unfold X.bM at h;unfold Hm;split
 ·rename_i h1;rw[if_pos h1]at h;exact absurd h (by decide)
 ·rename_i h1;rw[if_neg h1]at h
  split
  ·rename_i h2;rw[if_neg (by rw[hl];omega)]at h;exact absurd h hw
  ·rfl
theorem Pz {di:J.B} {a b c:Nat} {mode:Nat} {l:List Nat} (hl:∀x,x∈l↔x=a∨x=b∨x=c) (h:X.bM di l mode≠X.good):Hm di a b c mode=X.bM di l mode:=by
 unfold X.bM at h⊢;unfold Hm;split
 ·rfl
 ·rename_i h1;rw[if_neg h1]at h
  split
  ·rename_i h2;rw[if_neg (by rw[hl];omega)]
  ·rename_i h2;rw[if_pos (by rw[hl];omega)]at h;exact absurd rfl h
section
variable {w w' : World} {q g c : Nat} {M : Nat → Prop} {m : X.M} {v : Value} {l : List HP}
theorem ft.below (h:ft w q g c M m v l) (hb:Below w.heap.size w w'):ft w' q g c M m v l:=
 ⟨(hb.block q (ai h.row).1).trans h.row,h.ks.below hb,h.ng,h.rows.below hb,h.nq,h.eq⟩
theorem ft.len (h:ft w q g c M m v l):l.length=m.rows.length:=by rw[←h.eq,List.length_map]
theorem hpart_any (hr:w.heap[q]? =some (gF m g c v)) (hk:dB w g m.ks) (i:Nat) (hi:i<m.ks.length) (b:J.B) (hb:(X.aF m.ks i).at_+(X.aF m.ks i).len≤b.length) (hbl:b.length≤1000000):
  Calls Tryz.prog 52 #[.pointer (some ⟨q,0,none⟩), .int .i64 (i:Nat), .string ⟨b.toArray⟩] w λe w'=>e= .returned (.string ⟨(X.val m.ks i b).toArray⟩)∧Below w.heap.size w w':=by
 have hc:=aj w q hr;have k1:=hk.at_ hi;have k2:=hk.len hi;have k3:=hk.dup hi;have hex:(⟨b.toArray⟩:ByteArray).extract (X.aF m.ks i).at_ ((X.aF m.ks i).at_+(X.aF m.ks i).len)=⟨(X.val m.ks i b).toArray⟩:=by
  rw[ByteArray.extract_mk,Nat.add_sub_cancel_left];rfl
 have DC:(⟨b.toArray⟩:ByteArray).size=b.length:=bh b;have hw:wrap64 (((X.aF m.ks i).at_:Int)+(X.aF m.ks i).len)=(((X.aF m.ks i).at_+(X.aF m.ks i).len:Nat):Int):=by rw[IntWalk.wrap64_in _ (by omega)];omega
 have hw2:IntKind.i64.wrap (((X.aF m.ks i).at_:Int)+(X.aF m.ks i).len)=(((X.aF m.ks i).at_+(X.aF m.ks i).len:Nat):Int):=by rw[IntKind.wrap_i64];omega
 have hii:(i:Int)<(m.ks.length:Nat):=by omega
 have HZ:=ae (heap_alloc_new w dN);have cn:=ae ((ak _ w).alloc (aq _) dN);generalize(⟨b.toArray⟩:ByteArray)=S at hex DC⊢;generalize(⟨(X.val m.ks i b).toArray⟩:ByteArray)=R at hex⊢;have HEX:=ae hex;clear hr hk hbl hex;go_enter Tryz.func52,Tryz.ntmps52;go_wp2_with (refine wpList_store_row rfl _ _ 66 rfl w.heap.size rfl _ rfl _ _ HZ.out rfl (by kernel_rfl) rfl ?_);intro W3 hrow hg hsz;have HB:=ae (cn.out.grown hg cn.out.size (λk e=>by injection e with e;omega));have ea:=aj W3 w.heap.size hrow;clear hrow hg hsz HZ cn k1 k2 k3 hc;go_wp2;go_ret;exact⟨by rw[←HEX.out];rfl,HB.out⟩
theorem uM (hr:w.heap[q]? =some (gF m g c v)) (di:J.B) (a b d:Nat):
  Calls Tryz.prog 59 #[.pointer (some ⟨q,0,none⟩), .string ⟨di.toArray⟩, .int .u8 (a:Nat), .int .u8 (b:Nat), .int .u8 (d:Nat)] w λe w'=>e= .returned (.string ⟨(Hm di a b d m.mode).toArray⟩)∧w=w':=by
 have hc:=aj w q hr;clear hr;unfold Hm;generalize m.mode=mode at hc⊢;by_cases h0:mode=0
 ·rw[if_pos h0];subst h0;go_enter Tryz.func59,Tryz.ntmps59;go_wp2;go_ret;exact⟨rfl,rfl⟩
 ·rw[if_neg h0];have k0:¬((mode:Int)=0):=(by omega);by_cases h2:mode≠a∧mode≠b∧mode≠d
  ·rw[if_pos h2];have k1:((mode:Int) !=(a:Int))=true:=(by simp;omega);have k2:((mode:Int) !=(b:Int))=true:=(by simp;omega);have k3:((mode:Int) !=(d:Int))=true:=(by simp;omega);clear h2 h0;go_enter Tryz.func59,Tryz.ntmps59;go_wp2;go_ret;exact⟨rfl,rfl⟩
  ·rw[if_neg h2];by_cases e1:mode=a
   ·subst e1;clear h0;go_enter Tryz.func59,Tryz.ntmps59;go_wp2;go_ret;exact⟨rfl,rfl⟩
   ·have k1:((mode:Int) !=(a:Int))=true:=(by simp;omega);by_cases e2:mode=b
    ·subst e2;clear h0 e1 h2;go_enter Tryz.func59,Tryz.ntmps59;go_wp2;go_ret;exact⟨rfl,rfl⟩
    ·have k2:((mode:Int) !=(b:Int))=true:=(by simp;omega);obtain rfl:mode=d:=(by omega);clear h0 e1 e2 h2;go_enter Tryz.func59,Tryz.ntmps59;go_wp2;go_ret;exact⟨rfl,rfl⟩
theorem ij (hr:w.heap[q]? =some (gF m g c v)):
  Calls Tryz.prog 111 #[.pointer (some ⟨q,0,none⟩)] w λe w'=>(∃v,e= .returned v)∧w.grownBy w' (some q)∧w'.heap[q]? =some (gF m.dG g c v):=by
 have hc:=aj w q hr;have hz:=aC hr;have HG:=ae (aA (aA (World.grownBy.refl w (some q)) 9 (.bool true)) 14 (.bool false));have HR:=ae (aB (aB hr 9 (.bool true)) 14 (.bool false));clear hr;go_enter Tryz.func111,Tryz.ntmps111;go_wp2;go_end0;exact⟨⟨_,rfl⟩,HG.out,HR.out⟩
theorem ft.turn {m':X.M} (h:ft w q g c M m v l) (hg:w.grownBy w' (some q)) (hr:w'.heap[q]? =some (gF m' g c v)) (e1:m'.ks=m.ks) (e2:m'.rows=m.rows):ft w' q g c M m' v l:=by
 refine⟨hr, ?_,h.ng,h.rows.keep hg.size (λk hk hn=>hg.block k hk (λe=>hn (by injection e with e;rw[e];exact h.nq))) (λ_ _ h=>h),h.nq,by rw[e2];exact h.eq⟩;rw[e1];exact⟨av h.ks.1 hg.size,λj u hu=>(World.cell?_of_block (hg.block g h.ks.1 (λe=>h.ng (by injection e)))).trans (h.ks.2 j u hu)⟩
theorem oH (h:ft w q g c M m v l) (hk:X.eo m.ks m.size) (hf:∀x∈l,X.bj m.ks m.size x.1.b=true) (hl:l.length≤1000000) (p:J.B):
  Calls Tryz.prog 61 #[.pointer (some ⟨q,0,none⟩), .string ⟨p.toArray⟩] w λe w'=>(∃z:Int,e= .returned (.int .i64 z)∧((∃(j:Nat) (hj:j<l.length),z=j∧X.val m.ks 0 l[j].1.b=p)∨(z= -1∧∀x∈l,X.val m.ks 0 x.1.b≠p)))∧Below w.heap.size w w':=by
 obtain⟨A,c',rfl,hlc,hat,_,_⟩:=h.rows.cP;have HA:=ae hat;have HH:=ae h;have bg:=hk.one;have hsz:=hk.size;have kz:=ae (λW (hb:Below w.heap.size w W) (x:HP) (hx:x∈l)=>hpart_any (h.below hb).row (h.below hb).ks 0 bg.1 x.1.b ((X.aR.1 (hf x hx)).2 _ (X.aU bg.1)) (by have:=(X.aR.1 (hf x hx)).1;omega));have nB:=ae (λx:HP=>df (X.val m.ks 0 x.1.b) p);clear h hat hk hf bg hsz;generalize(⟨p.toArray⟩:ByteArray)=ps at nB⊢;go_enter Tryz.func61,Tryz.ntmps61;go_wp2;go_loopw [5] (fun i wr=>∃j:Nat,j≤l.length∧i= .int .i64 j∧Below w.heap.size w wr∧∀t (ht:t<l.length),t<j→X.val m.ks 0 l[t].1.b≠p) (fun i _=>l.length - (intOf i).toNat)
 case atStart=>exact⟨0,Nat.zero_le _,rfl,ak _ _,λt _ h=>absurd h (Nat.not_lt_zero t)⟩
 case round=>
  obtain⟨j,hj,rfl,hB,hno⟩:=hrel;have AD:=ae hno;have HB:=ae hB;have hc:=aj wr q (HH.out.below hB).row;clear hno hB;by_cases hlt:j<l.length
  ·obtain⟨g1,rfl,hg1,hcells⟩:=HA.out (by omega);obtain⟨c0,c1⟩:=kf l j hlt;have hc0:wr.cell? ⟨g1,j*2,none⟩=some (encStr l[j].1.b):=(HB.out.cell (p:=⟨g1,j*2,none⟩) hg1).trans (hcells _ _ c0);have ZH:=ae (kz.out wr HB.out l[j] (List.getElem_mem hlt));have WX:=ae (nB.out l[j]);have HE:=ae (show X.val m.ks 0 l[j].1.b=X.val m.ks 0 l[j].1.b from rfl);have aW:=ae hlt;clear hcells c0 c1;unfold encStr at hc0;generalize(⟨(l[j].1.b).toArray⟩:ByteArray)=S at hc0 ZH;generalize(⟨(X.val m.ks 0 l[j].1.b).toArray⟩:ByteArray)=T at ZH WX;go_wp2_with fail;refine ZH.out.mono ?_;rintro e w1 ⟨rfl,hb⟩;have bV:=ae (HB.out.trans (hb.mono HB.out.size));clear hb ZH hc hc0;by_cases he:X.val m.ks 0 l[j].1.b=p
   ·have hq:(T.toList==ps.toList)=true:=(by rw[WX.out];exact decide_eq_true he);have HK:=ae he;clear he WX;go_wp2;go_ret;exact⟨⟨_,rfl, .inl ⟨j,aW.out,rfl,HK.out⟩⟩,bV.out⟩
   ·have hq:(T.toList==ps.toList)=false:=(by rw[WX.out];exact decide_eq_false he);have HK:=ae he;clear he WX;go_wp2;go_roundw
    case rel=>
     refine⟨j+1,aW.out,by go_num,bV.out,λt ht LI=> ?_⟩;by_cases e:t=j
     ·subst e;exact HK.out
     ·exact AD.out t ht (by omega)
    case measure=>have:=aW.out;simp[intOf];omega
  ·obtain rfl:j=l.length:=(by omega);have bV:=HB;go_wp2;go_ret;refine⟨⟨_,rfl, .inr ⟨rfl,λr hr=> ?_⟩⟩,bV.out⟩;obtain⟨t,ht,rfl⟩:=List.getElem_of_mem hr;exact AD.out t ht ht
end
def kg (n:Nat):Code→Option Code
 | .region id l d=>if id=n then some (.region id l d)else none
 | .loop c=>kg n c
 | .seq a b=>match kg n a with
  |some c=>some c
  |none=>kg n b
 | .block _ c=>kg n c
 | .scope c=>kg n c
 | .cond _ a b=>match kg n a with
  |some c=>some c
  |none=>kg n b
 |_=>none
theorem cH {P:Program} {ops:Array Oper} {Q:Exit→Act→World→Prop} {S:World→Prop} {L:Act→World→Prop} {i:Nat} {o:Oper} {t:Pl} {a:Act} {w:World} (ho:ops[i]? =some o) (hg:Region.wanted o (yielded ops a.tmps)=false)
  (h:∀K:Act→World→Prop,Shut (∀(a:Act) (w:World) (T:World→Prop),(∀w,T w→S w)→T w→wpPm P ops Q L t T a w→K a w)→K (a.put o.dst undef) w):wpPm P ops Q L (.wr i t) S a w:=
 wpPm_write ho (λK hK=>by rw[hg,if_neg (by decide)];exact h K hK)
def yc (ks:List X.Ky) (i:Nat) (x y:HP):Bool:=X.nk ks i x.1 y.1
def DD (ks:List X.Ky) (i:Nat) (x:HP) (l:List HP):List HP:=l.takeWhile (yc ks i · x)++x::l.dropWhile (yc ks i · x)
def dg (ks:List X.Ky) (i:Nat) (l:List HP):List HP:=l.foldl (λa x=>DD ks i x a) []
theorem TR {α β:Type} (f:α→β) (p:β→Bool) (l:List α):(l.takeWhile λx=>p (f x)).map f=(l.map f).takeWhile p∧(l.dropWhile λx=>p (f x)).map f=(l.map f).dropWhile p:=by
 induction l with
 |nil=>exact⟨rfl,rfl⟩
 |cons a t ih=>
  rw[List.map_cons,List.takeWhile_cons,List.takeWhile_cons,List.dropWhile_cons,List.dropWhile_cons];cases p (f a)with
  |true=>exact⟨by rw[if_pos rfl,if_pos rfl,List.map_cons,ih.1],by rw[if_pos rfl,if_pos rfl,ih.2]⟩
  |false=>exact⟨rfl,rfl⟩
theorem LJ (ks:List X.Ky) (i:Nat) (x:HP) (l:List HP):(DD ks i x l).map (·.1)=X.ry ks i x.1 (l.map (·.1)):=by
 obtain⟨h1,h2⟩:=TR (λy:HP=>y.1) (λy=>X.nk ks i y x.1) l;rw[X.OW,←h1,←h2,DD,List.map_append,List.map_cons];rfl
theorem rL (ks:List X.Ky) (i:Nat) (l:List HP) (x:HP):dg ks i (l++[x])=DD ks i x (dg ks i l):=by
 unfold dg;rw[List.foldl_append];rfl
theorem uN (ks:List X.Ky) (i:Nat) (l:List HP):(dg ks i l).map (·.1)=X.bQ ks i (l.map (·.1)):=by
 refine X.qb (P:=λl=>(dg ks i l).map (·.1)=X.bQ ks i (l.map (·.1))) rfl (λl x ih=> ?_) l;rw[rL,List.map_append,List.map_cons,List.map_nil,X.qa,LJ,ih]
theorem lW (ks:List X.Ky) (i:Nat) (l:List HP):(dg ks i l).length=l.length:=by
 have:=congrArg List.length (uN ks i l);rw[List.length_map,X.qc,List.length_map]at this;exact this
theorem LK {ks:List X.Ky} {i:Nat} {x z:HP} {l:List HP} (h:z∈DD ks i x l):z=x∨z∈l:=by
 unfold DD at h;rcases List.mem_append.1 h with h|h
 ·exact .inr ((List.takeWhile_sublist _).subset h)
 ·rcases au h with h|h
  ·exact .inl h
  ·exact .inr ((List.dropWhile_sublist _).subset h)
theorem qM {ks:List X.Ky} {i:Nat} {z:HP} (l:List HP):z∈dg ks i l→z∈l:=by
 refine X.qb (P:=λl=>z∈dg ks i l→z∈l) (λh=>h) (λl x ih h=> ?_) l;rw[rL]at h;rcases LK h with h|h
 ·subst h;exact List.mem_append_right _ af
 ·exact List.mem_append_left _ (ih h)
theorem PA {α:Type} (p:α→Bool) (l:List α):l.takeWhile p=l.take (l.takeWhile p).length∧l.dropWhile p=l.drop (l.takeWhile p).length∧(l.takeWhile p).length≤l.length∧(∀j (h:j<l.length),j<(l.takeWhile p).length→p l[j]=true)∧(∀h:(l.takeWhile p).length<l.length,p l[(l.takeWhile p).length]=false):=by
 induction l with
 |nil=>exact⟨rfl,rfl,aq _,λj h=>absurd h (by simp),λh=>absurd h (by simp)⟩
 |cons a t ih=>
  obtain⟨h1,h2,h3,h4,h5⟩:=ih;rw[List.takeWhile_cons,List.dropWhile_cons];cases hp:p a with
  |true=>
   rw[if_pos rfl,if_pos rfl];refine⟨by rw[List.length_cons,List.take_succ_cons,←h1],by rw[List.length_cons,List.drop_succ_cons,←h2],by simp;omega,λj h hj=> ?_,λh=> ?_⟩
   ·cases j with
    |zero=>exact hp
    |succ j=>exact h4 j (by simpa using h) (by simpa using hj)
   ·simpa using h5 (by simpa using h)
  |false=>
   exact⟨rfl,rfl,Nat.zero_le _,λj h hj=>absurd hj (by simp),λh=>hp⟩
abbrev WY:Obj:= .cells #[.string ⟨#[]⟩, .slice none 0 0] 52 (0,0)
abbrev aa7 (p:HP):Obj:= .cells #[encStr p.1.b,p.2] 52 (0,0)
section
variable {w w' : World} {q g c : Nat} {M : Nat → Prop} {m : X.M} {v : Value} {l : List HP}
theorem mP.cells (h:mP w M v l) {k:Nat} (hk:k<l.length):∃g0 c0,v= .slice (some ⟨g0,0,none⟩) l.length c0∧w.cell? ⟨g0,k*2,none⟩=some (encStr l[k].1.b)∧w.cell? ⟨g0,k*2+1,none⟩=some l[k].2:=by
 rcases h.row with⟨_,e⟩|⟨g0,c0,e,_,_,_,h4⟩
 ·rw[e]at hk;exact absurd hk (by simp)
 ·obtain⟨a,b⟩:=kf l k hk;exact⟨g0,c0,e,h4 _ _ a,h4 _ _ b⟩
theorem mO.cell {ts:List Nat} (h:mO w M v ts) {i:Nat} (hi:i<ts.length):∃g0 c0,v= .slice (some ⟨g0,0,none⟩) ts.length c0∧w.cell? ⟨g0,i,none⟩=some (pT ts[i]):=by
 obtain⟨g0,c0,e,_,_,h3⟩:=h;exact⟨g0,c0,e,h3 i hi⟩
end
structure cj (m:X.M) (l:List HP):Prop where
 fit:∀x∈l,X.bj m.ks m.size x.1.b=true
 ts:∀x∈l,x.1.ts.length=m.ks.length
 ks:X.eo m.ks m.size
 len:l.length≤1000000
section
variable {w w' : World} {q g c : Nat} {M : Nat → Prop} {m : X.M} {v : Value} {l : List HP}
theorem cj.part (hf:cj m l) (h:ft w q g c M m v l) {i:Nat} (hi:i<m.ks.length) (x:HP) (hx:x∈l):
  Calls Tryz.prog 52 #[.pointer (some ⟨q,0,none⟩), .int .i64 (i:Nat), .string ⟨x.1.b.toArray⟩] w λe w'=>e= .returned (.string ⟨(X.val m.ks i x.1.b).toArray⟩)∧Below w.heap.size w w':=
 hpart_any h.row h.ks i hi x.1.b ((X.aR.1 (hf.fit x hx)).2 _ (X.aU hi)) (by have:=(X.aR.1 (hf.fit x hx)).1;have:=hf.ks.size;omega)
theorem cj.sub (hf:cj m l) {l':List HP} (hs:∀x∈l',x∈l) (hl:l'.length≤l.length):cj m l':=⟨λx hx=>hf.fit x (hs x hx),λx hx=>hf.ts x (hs x hx),hf.ks,by have:=hf.len;omega⟩
end
end Go.Proofs.YtipljcmmokaokaaGreat
