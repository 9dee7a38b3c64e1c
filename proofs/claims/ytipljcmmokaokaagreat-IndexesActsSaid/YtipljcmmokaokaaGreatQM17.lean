import Derived.Test.YtipljcmmokaokaaGreatQM15
set_option linter.unusedVariables false
set_option linter.unusedSimpArgs false
set_option maxHeartbeats 2000000
namespace Go.Proofs.YtipljcmmokaokaaGreat
open Go.RowKit Go.Lib Go.Maps Go.WideMaps Go.Sort
set_option maxRecDepth 100000
theorem LP:∀(x y:J.B),Lib.compareBytes x y=if x<y then -1 else if x=y then 0 else 1
 |[],[]=>rfl
 |[],_::_=>by rw[if_pos (List.nil_lt_cons _ _)];rfl
 |_::_,[]=>by rw[if_neg (List.not_lt_nil _),if_neg (by simp)];rfl
 |a::s,b::t=>by
  unfold Lib.compareBytes;rw[LP s t];by_cases h1:a<b
  ·rw[if_pos h1,if_pos (R.my.2 (.inl h1))]
  ·rw[if_neg h1];by_cases h2:b<a
   ·rw[if_pos h2,if_neg (λh=>by
     rcases R.my.1 h with h|⟨h,_⟩
     ·exact h1 h
     ·subst h;exact absurd h2 (by simp)),if_neg (λh=>by injection h with h;subst h;exact absurd h2 (by simp))]
   ·have e:a=b:=by
     rw[R.RL]at h1 h2;exact UInt8.toNat_inj.1 (by omega)
    subst e;rw[if_neg h2];have h3:a::s<a::t↔s<t:=by
     rw[R.my];exact⟨λh=>h.elim (λh=>absurd h h1) (λh=>h.2),λh=> .inr ⟨rfl,h⟩⟩
    simp only[h3,List.cons.injEq,true_and]
def DF (r:Nat) (c:Int):Bool:=
 if r=0 then decide (c=0)else if r=1 then decide (0<c)else if r=2 then decide (0≤c)else if r=3 then decide (c<0)else if r=4 then decide (c≤0)else false
theorem Hr (r:Nat) (x y:J.B):DF r (Lib.compareBytes x y)=X.rel r x y:=by
 rw[LP];unfold DF X.rel;by_cases h1:x<y
 ·have h2:¬y<x:=λh=>List.lt_asymm h1 h;have h3:x≠y:=λh=>by subst h;exact List.lt_irrefl _ h1
  rw[if_pos h1];simp[h1,h2,h3]
 ·rw[if_neg h1];by_cases h3:x=y
  ·subst h3;simp[List.lt_irrefl]
  ·have h2:y<x:=J.JQ x y h1 h3;rw[if_neg h3];simp[h1,h2,h3]
theorem DG (r:Nat) (c:Int) (w:World) (hr:r≤5):
  Calls Tryz.prog 64 #[.int .u8 (r:Nat), .int .i64 c] w λe w'=>e= .returned (.bool (DF r c))∧w=w':=by
 rcases(show r=0∨r=1∨r=2∨r=3∨r=4∨r=5 by omega)with rfl|rfl|rfl|rfl|rfl|rfl
 all_goals
  go_enter Tryz.func64,Tryz.ntmps64;go_wp2;go_ret;exact⟨rfl,rfl⟩
theorem DI {w0:World} {p pf:Nat} {F:Obj} {s:J.St} {fs:List (Nat×Obj)} {w w':World} {A:Option Addr} {ls:List J.B} (h:At w0 p ((pf,F)::fs) s w) (hf:∀x∈fs,x.1≠pf) (hb:Below w.heap.size w w') (hs:gP w' A ls) (hg:∀g,A=some ⟨g,0,none⟩→w.heap.size≤g):
  ∃gs,(∀x∈fs,x∈gs)∧(∀x∈gs,x.1≠pf)∧At w0 p ((pf,F)::gs) s w'∧∀mQ t W,At w0 p mQ t W→(∀x∈gs,x∈mQ)→gP W A ls:=by
 by_cases hk:0<ls.length
 ·obtain⟨g,e,hl,hc⟩:=hs hk;obtain⟨o,ho⟩:∃o,w'.heap[g]? =some o:=⟨_,Array.getElem?_eq_getElem hl⟩;have hpl:pf<w.heap.size:=(ai (h.get af)).1;have vE:=hg g e;refine⟨(g,o)::fs,λx hx=>ag _ hx,λx hx=> ?_, ?_,λmQ t W hW ez=>λ_=> ?_⟩
  ·rcases au hx with rfl|hx
   ·show g≠pf;omega
   ·exact hf x hx
  ·refine(h.add hb (gs:=[(g,o)]) (λx hx=>by simp only[List.mem_singleton]at hx;subst hx;exact⟨vE,ho⟩)).less (λx hx=> ?_);rcases au hx with rfl|hx
   ·simp
   ·rcases au hx with rfl|hx
    ·simp
    ·simp[hx]
  ·have hW2:=hW.get (ez _ af);exact⟨g,e,(ai hW2).1,λj hj=>(World.cell?_of_block (hW2.trans ho.symm)).trans (hc j hj)⟩
 ·exact⟨fs,λx hx=>hx,hf,h.below hb,λ_ t W _ _ h0=>absurd h0 hk⟩
def Ct (f:Fv) (nm:J.B) (ks:List X.Ky) (i:Nat):Option X.Row→Fv
 |none=>{f with at_:=[],same:=false,lost:=true,read:=false}
 |some x=>{f with key:=i,at_:=X.aN nm ks i x,same:=true,lost:=false,read:=false}
def Hs (ks:List X.Ky) (i r:Nat) (b:J.B) (x:X.Row):Bool:=X.rel r ((X.val ks i x.b).take b.length) b
def pG (ks:List X.Ky) (i:Nat) (rows:List X.Row) (r:Nat) (b:J.B):Option X.Row:=
 if r=3∨r=4 then((X.bQ ks i rows).filter (Hs ks i r b)).getLast? else(X.bQ ks i rows).find? (Hs ks i r b)
def stB (o:Option X.Row):J.B:=if o.isSome then [48,48]else [50,51]
theorem qN {α:Type} (q:α→Bool) (l:List α) (x:α):((l++[x]).filter q).getLast? =if q x=true then some x else(l.filter q).getLast? :=by
 rw[List.filter_append];cases h:q x
 ·simp[h]
 ·simp[h]
theorem xd {α:Type} {q:α→Bool} {l:List α} (h:(l.filter q).getLast? =none):∀x∈l,q x=false:=λx hx=>by
 have h2:l.filter q=[]:=List.getLast?_eq_none_iff.1 h;cases hq:q x with
 |false=>rfl
 |true=>
  have:=List.mem_filter.2 ⟨hx,hq⟩;rw[h2]at this;cases this
theorem PC {α:Type} {q:α→Bool} {l:List α} {k:Nat} (hk:k<l.length) (h:∀x∈l.take k,q x=false) (hq:q l[k]=true):l.find? q=some l[k]:=by
 conv=>lhs;rw[←List.take_append_drop k l,List.drop_eq_getElem_cons hk]
 rw[List.find?_append,List.find?_eq_none.2 (λx hx=>by rw[h x hx];decide),List.find?_cons,hq];rfl
section
variable {w0 : World} {p pf g c size ct u : Nat} {nm : J.B} {ks : List X.Ky} {rows : List X.Row} {f : Fv} {w w' : World} {s s1 s2 : J.St} {fs : List (Nat × Obj)} {ok : Obj}
theorem AX (h0:w.heap[pf]? =some (ax p nm size g ks.length c f)) (hs:X.bM [52,55] [1,3] f.mode≠[48,48]) (k:Int) (r:Nat) (A:Option Addr) (m cb:Nat):
  Calls Tryz.prog 19 #[.pointer (some ⟨pf,0,none⟩), .int .i64 k, .int .u8 (r:Nat), .slice A m cb] w λe w'=>e= .returned (.string ⟨(X.bM [52,55] [1,3] f.mode).toArray⟩)∧Below w.heap.size w w':=by
 have dD:=ae (bG h0 [52,55] [1,3] 2 #[.int .u8 1, .int .u8 3] rfl rfl (by decide) w.heap.size rfl);have hne:=sG hs;have HB:=ae ((ak _ w).alloc (aq _) (.cells #[.int .u8 1, .int .u8 3] 32));generalize(⟨(X.bM [52,55] [1,3] f.mode).toArray⟩:ByteArray)=st at dD hne⊢;clear h0 hs;go_enter Tryz.func19,Tryz.ntmps19;go_wp2_with fail;refine dD.out.mono ?_;rintro e W1 ⟨rfl,hW1⟩;subst hW1;clear dD;go_wp2;go_ret;exact⟨rfl,HB.out⟩
theorem DJ (h:At w0 p ((pf,ax p nm size g ks.length c f)::fs) s w) (hf:∀x∈fs,x.1≠pf) (bC:(g,ok)∈fs) (hO:bJ ok ks) (ht:J.Two s) (hX:XF nm size ks rows ct s.now) (hs:X.bM [52,55] [1,3] f.mode=[48,48]) (k:Int) (r:Nat) (A:Option Addr) (cb:Nat) (b:J.B) (hk:k<0∨ks.length≤k∨b.length=0∨(X.aF ks k.toNat).len<b.length):
  Calls Tryz.prog 19 #[.pointer (some ⟨pf,0,none⟩), .int .i64 k, .int .u8 (r:Nat), .slice A b.length cb] w λe w'=>e= .returned (.string ⟨#[50,51]⟩)∧At w0 p ((pf,ax p nm size g ks.length c {f with at_:=[],same:=false,lost:=true,read:=false})::fs) s w':=by
 have hlt:=(ai (h.get af)).1;have hlt:pf<w.heap.size:=hlt;have dD:=ae (bG (h.get af) [52,55] [1,3] 2 #[.int .u8 1, .int .u8 3] rfl rfl (by decide) w.heap.size rfl);rw[hs]at dD;have HA:=ae (h.below ((ak _ w).alloc (aq _) (.cells #[.int .u8 1, .int .u8 3] 32)));have HF:=ae (λw1 (hh:At w0 p ((pf,ax p nm size g ks.length c f)::fs) s w1) w2 (hg:w1.grownBy w2 (some pf)) (hr:w2.heap[pf]? =some (ax p nm size g ks.length c {f with at_:=[],same:=false,lost:=true,read:=false}))=>cz hh hf ht hg hr);have gp:=ae (λw1 (hh:At w0 p ((pf,ax p nm size g ks.length c {f with at_:=[],same:=false,lost:=true,read:=false})::fs) s w1)=>hO.2 w1 g (hh.get (ag _ bC)));clear hf bC hO ht hX;clear h hs;go_enter Tryz.func19,Tryz.ntmps19;go_wp2_with fail;refine dD.out.mono ?_;rintro e W1 ⟨rfl,hW1⟩;subst hW1;clear dD;refine aM (λX=>At w0 p ((pf,ax p nm size g ks.length c f)::fs) s X∧Below w.heap.size w X) ⟨HA.out,(ak _ w).alloc (aq _) _⟩ ?_;rintro W ⟨ha,sH⟩;clear HA;go_wp2_with fail;refine(lV (ha.get af)).mono ?_;rintro e W2 ⟨⟨_,rfl⟩,hg,hr⟩;have ha2:=HF.out _ ha _ hg hr;have br:Hid (w.heap.size≤W2.heap.size):=ae (aw sH.size hg.size);clear hg hr HF ha sH;have hc:=aj W2 pf (ha2.get (af:(pf,ax p nm size g ks.length c {f with at_:=[],same:=false,lost:=true,read:=false})∈(pf,ax p nm size g ks.length c {f with at_:=[],same:=false,lost:=true,read:=false})::fs));have bY:=gp.out _ ha2;have fE:=ae ha2;clear ha2 gp;by_cases k0:k<0
 ·clear bY hk;go_wp2;go_ret;exact⟨rfl,fE.out⟩
 ·by_cases k1:(ks.length:Int)≤k
  ·clear bY hk;go_wp2;go_ret;exact⟨rfl,fE.out⟩
  ·by_cases k2:b.length=0
   ·have k3:(b.length:Int)=0:=(by omega);clear bY hk;go_wp2;go_ret;exact⟨rfl,fE.out⟩
   ·obtain⟨i,rfl⟩:∃i:Nat,k=i:=⟨k.toNat,by omega⟩;have hi:i<ks.length:=(by omega);have hl:=bY.len hi;have k4:(X.aF ks i).len<b.length:=by
     rcases hk with h|h|h|h
     ·omega
     ·omega
     ·omega
     ·exact h
    have k5:((X.aF ks i).len:Int)<(b.length:Nat):=(by omega);have k6:¬(b.length:Int)=0:=(by omega);have k7:(i:Int)<(ks.length:Nat):=(by omega);have k8:¬b=[]:=λe=>by rw[e]at k2;exact k2 rfl
    clear bY hk k2 k4 hi;go_wp2;go_ret;exact⟨rfl,fE.out⟩
structure ZI (w0:World) (p pf g c size:Nat) (nm:J.B) (ks:List X.Ky) (f:Fv) (gs:List (Nat×Obj)) (s:J.St) (rows:List X.Row) (i r:Nat) (b:J.B) (k:Nat) (o:Option X.Row) (W:World):Prop where
 at_:At w0 p ((pf,ax p nm size g ks.length c (Ct f nm ks i o))::gs) s W
 last:o=(((X.bQ ks i rows).take k).filter (Hs ks i r b)).getLast?
 none:¬(r=3∨r=4)→o=none
theorem Ht (h:At w0 p ((pf,ax p nm size g ks.length c f)::fs) s w) (hf:∀x∈fs,x.1≠pf) (bC:(g,ok)∈fs) (hO:bJ ok ks) (ht:J.Two s) (hX:XF nm size ks rows ct s.now) (hs:X.bM [52,55] [1,3] f.mode=[48,48]) (i r:Nat) (hr:r≤5) (A:Option Addr) (cb:Nat) (b:J.B) (dX:Src w0 p fs (.slice A b.length cb) b) (hi:i<ks.length) (hb0:b.length≠0) (hbl:b.length≤(X.aF ks i).len):
  Calls Tryz.prog 19 #[.pointer (some ⟨pf,0,none⟩), .int .i64 (i:Nat), .int .u8 (r:Nat), .slice A b.length cb] w λe w'=>e= .returned (.string ⟨(stB (pG ks i rows r b)).toArray⟩)∧At w0 p ((pf,ax p nm size g ks.length c (Ct f nm ks i (pG ks i rows r b)))::fs) s w':=by
 have hlt:=(ai (h.get af)).1;have hlt:pf<w.heap.size:=hlt;have dD:=ae (bG (h.get af) [52,55] [1,3] 2 #[.int .u8 1, .int .u8 3] rfl rfl (by decide) w.heap.size rfl);rw[hs]at dD;have HA:=ae (h.below ((ak _ w).alloc (aq _) (.cells #[.int .u8 1, .int .u8 3] 32)));have HF:=ae (λw1 (hh:At w0 p ((pf,ax p nm size g ks.length c f)::fs) s w1) w2 (hg:w1.grownBy w2 (some pf)) (hr:w2.heap[pf]? =some (ax p nm size g ks.length c {f with at_:=[],same:=false,lost:=true,read:=false}))=>cz hh hf ht hg hr);have gp:=ae (λw1 (hh:At w0 p ((pf,ax p nm size g ks.length c {f with at_:=[],same:=false,lost:=true,read:=false})::fs) s w1)=>hO.2 w1 g (hh.get (ag _ bC)));have Lg:(i:Int)<(ks.length:Nat):=by omega
 have Ff:¬(i:Int)<0:=by omega
 have OD:¬(ks.length:Int)≤(i:Nat):=by omega
 have hb1:¬(b.length:Int)=0:=by omega
 have hb3:¬b=[]:=λe=>by rw[e]at hb0;exact hb0 rfl
 have hb4:((b.length:Int)==0)=false:=by simpa using hb3
 have hb2:¬((X.aF ks i).len:Int)<(b.length:Nat):=by omega
 have hl2:=hX.lens hi;have HP:=ae (λW=>bL nm size (some ⟨g,0,none⟩) ks.length c i (by have:=hX.ks.one;omega) (by have:=hX.nm;omega) W);have Jy:=λw1 (hh:At w0 p ((pf,ax p nm size g ks.length c {f with at_:=[],same:=false,lost:=true,read:=false})::fs) s w1)=>gX hh ⟨(X.pre nm i).toArray⟩ (by have:=hX.many;omega);rw[hX.con.gj (by have:=hX.ks.one;omega) hX.rows (by have:=hX.ct;omega) hi]at Jy;have Cu:=ae Jy;have HX:=ae hX;have HO:=ae hO;have lj:=ae bC;have DK:=ae dX;have WZ:=ae hf;have HT:=ae ht;have TJ:=ae (λa b W=>Tryz.strings_Compare a b W);have HHO:=ae (λc w=>DG r c w hr);have HI:=ae hi;generalize(⟨(X.pre nm i).toArray⟩:ByteArray)=P at HP Cu;clear hf bC hO ht hX dX Jy hr;clear h hs;go_enter Tryz.func19,Tryz.ntmps19;go_wp2_with fail;refine dD.out.mono ?_;rintro e W1 ⟨rfl,hW1⟩;subst hW1;clear dD;refine aM (λX=>At w0 p ((pf,ax p nm size g ks.length c f)::fs) s X∧Below w.heap.size w X) ⟨HA.out,(ak _ w).alloc (aq _) _⟩ ?_;rintro W ⟨ha,sH⟩;clear HA;go_wp2_with fail;refine(lV (ha.get af)).mono ?_;rintro e W2 ⟨⟨_,rfl⟩,hg,hr⟩;have ha2:=HF.out _ ha _ hg hr;have br:Hid (w.heap.size≤W2.heap.size):=ae (aw sH.size hg.size);clear hg hr HF ha sH;have hc:=aj W2 pf (ha2.get (af:(pf,ax p nm size g ks.length c {f with at_:=[],same:=false,lost:=true,read:=false})∈(pf,ax p nm size g ks.length c {f with at_:=[],same:=false,lost:=true,read:=false})::fs));have hl:=(gp.out _ ha2).len hi;have fE:=ae ha2;clear ha2 gp;go_wp2_with fail;clear hi hl hc hb2 hb1 Ff OD hb3 hb4;refine aK (.rd 0 (.rd 1 (.rd 2 (.rd 3 (.rd 4 (.rd 5 (.rd 6 (.rd 7 (.rd 8 (.rd 12 (.wr 9 (.wr 10 (.rd 11 .fin))))))))))))) (λw'=>At w0 p ((pf,ax p nm size g ks.length c {f with at_:=[],same:=false,lost:=true,read:=false})::fs) s w') (by kernel_rfl) (by kernel_rfl) (λc a d v w h=>by cases d<;>exact h) (fE.out.below ((ak _ _).drew)) ?_;repeat
  refine az (v:= ?_) (by rfl) (by rfl) (λw' hS=> ?_) (λK hK=> ?_);rotate_left
  ·have hc:=aj w' pf (hS.get (af:(pf,ax p nm size g ks.length c {f with at_:=[],same:=false,lost:=true,read:=false})∈(pf,ax p nm size g ks.length c {f with at_:=[],same:=false,lost:=true,read:=false})::fs));clear hS;go_simp;try with_reducible rfl
  go_simp;refine hK _ ?_;clear hK K
 refine wpPm_write (by rfl) (λK hK=> ?_);go_simp;refine(HP.out _).mono ?_;rintro e W3 ⟨rfl,hb⟩;have hb:Below W2.heap.size W2 W3:=((ak _ W2).drew).trans hb;have cU:=ae (fE.out.below hb);clear hb HP;refine hK.out _ _ (λw'=>At w0 p ((pf,ax p nm size g ks.length c {f with at_:=[],same:=false,lost:=true,read:=false})::fs) s w') (λ_ h=>h) cU.out ?_;clear hK K;refine wpPm_write (by rfl) (λK hK=> ?_);go_simp;refine(Cu.out _ cU.out).mono ?_;rintro e W4 ⟨A4,rfl,hst,ya,hb4,vE⟩;have cZ:=ae ya;obtain⟨gs,Hu,hgf,Sk,AY⟩:=DI cU.out WZ.out hb4 hst vE;have sM:=ae Hu;have HGF:=ae hgf;have Sm:=ae Sk;have HST:=ae AY;clear hst ya hb4 vE Hu hgf Sk AY Cu fE cU;refine hK.out _ _ (λw'=>At w0 p ((pf,ax p nm size g ks.length c {f with at_:=[],same:=false,lost:=true,read:=false})::fs) s w') (λ_ h=>h) cZ.out ?_;clear hK K;repeat
  refine az (v:= ?_) (by rfl) (by rfl) (λw' hS=> ?_) (λK hK=> ?_);rotate_left
  ·have hc:=aj w' pf (hS.get (af:(pf,ax p nm size g ks.length c {f with at_:=[],same:=false,lost:=true,read:=false})∈(pf,ax p nm size g ks.length c {f with at_:=[],same:=false,lost:=true,read:=false})::fs));clear hS;go_simp;try with_reducible rfl
  go_simp;refine hK _ ?_;clear hK K
 show wpList _ _ _ _ _ _;have sB:((X.bQ ks i rows).map (X.aN nm ks i)).length=(X.bQ ks i rows).length:=List.length_map ..;try rw[sB]
 have PD:=ae sB;clear sB cZ;have hn5:(X.bQ ks i rows).length≤100000:=by
  have h1:=HX.out.con.gj (by have:=HX.out.ks.one;omega) HX.out.rows (by have:=HX.out.ct;omega) HI.out;have h2:=iz s.now ⟨(X.pre nm i).toArray⟩;rw[h1,List.length_map]at h2;have:=HX.out.many;omega
 generalize PE:(X.bQ ks i rows).length=n at hn5;have PF:=ae PE;clear PE;go_wp2;have eu:Hid (ZI w0 p pf g c size nm ks f gs s rows i r b 0 none W4):=ae ⟨Sm.out,rfl,λ_=>rfl⟩;clear Sm;go_loopw [63] (fun t W=>∃k:Nat,k≤n∧t= .int .i64 k∧∃o,Hid (ZI w0 p pf g c size nm ks f gs s rows i r b k o W)) (fun t _=>n - (intOf t).toNat)
 case atStart=>exact⟨0,Nat.zero_le _,rfl,none,eu⟩
 case round=>
  clear eu;obtain⟨k,hk,rfl,o,HS⟩:=hrel;by_cases hlt:k<n
  ·have dV:k<(X.bQ ks i rows).length:=(by rw[PF.out];exact hlt);obtain⟨g4,rfl,Cl,uP⟩:=HST.out _ _ _ HS.out.at_ fA (by rw[PD.out];omega);have ea:=uP k (by rw[PD.out];exact dV);rw[List.getElem_map]at ea;have zq:(X.bQ ks i rows)[k]∈rows:=(X.bt ks i _ rows).1 (List.getElem_mem dV);have Xa:(X.bQ ks i rows)[k]? =some (X.bQ ks i rows)[k]:=List.getElem?_eq_getElem dV;generalize Jz:(X.bQ ks i rows)[k]=x at ea zq;replace ea:wr.cell? ⟨g4,k,none⟩=some (.string ⟨(X.aN nm ks i x).toArray⟩):=ea;have ZJ:=ae Jz;have aW:=ae hlt;have HV:=ae (λw1 (hh:At w0 p ((pf,ax p nm size g ks.length c (Ct f nm ks i o))::gs) s w1)=>ke (c:=c) HX.out HI.out zq w1 (HO.out.2 w1 g (hh.get (ag _ (sM.out _ lj.out)))));have oU:=HX.out.vlen HI.out zq;have hto:=sy (X.val ks i x.b) b.length (by rw[oU];exact hbl);have hcm:=TJ.out ⟨((X.val ks i x.b).take b.length).toArray⟩ ⟨b.toArray⟩;rw[show(⟨((X.val ks i x.b).take b.length).toArray⟩:ByteArray).data.toList=(X.val ks i x.b).take b.length from rfl,show(⟨b.toArray⟩:ByteArray).data.toList=b from rfl]at hcm;have ZK:=λw=>HHO.out (Lib.compareBytes ((X.val ks i x.b).take b.length) b) w;rw[Hr]at ZK;have hq:X.rel r ((X.val ks i x.b).take b.length) b=Hs ks i r b x:=rfl;rw[hq]at ZK;have LQ:=ae hcm;have TU:=ae ZK;have cd:∀j,(Ct f nm ks i o).key=j→True:=λ_ _=>trivial;clear uP Cl Xa Jz hcm ZK hq oU zq cd;generalize Lib.compareBytes ((X.val ks i x.b).take b.length) b=cc at LQ TU;generalize(⟨((X.val ks i x.b).take b.length).toArray⟩:ByteArray)=vt at hto LQ;generalize js:(⟨(X.val ks i x.b).toArray⟩:ByteArray)=vv at hto HV;generalize WR:(⟨b.toArray⟩:ByteArray)=bb at LQ;have HBB:=ae WR;generalize JA:(⟨(X.aN nm ks i x).toArray⟩:ByteArray)=ee at ea HV;have HEE:=ae JA;clear js WR JA;go_wp2_with fail;refine aD 14 (.rd 0 (.rd 1 (.rd 2 (.rd 3 (.rd 4 (.rd 5 (.rd 6 (.rd 8 (.rd 9 (.rd 11 (.rd 12 (.wr 7 (.rd 10 (.wr 13 .fin)))))))))))))) (λw'=>At w0 p ((pf,ax p nm size g ks.length c (Ct f nm ks i o))::gs) s w') (by kernel_rfl) (by kernel_rfl) (λc a d v w h=>by cases d<;>exact h) (HS.out.at_.below ((ak _ _).drew)) ?_;repeat
    refine az (v:= ?_) (by rfl) (by rfl) (λw' hS=> ?_) (λK hK=> ?_);rotate_left
    ·have hc:=aj w' pf (hS.get (af:(pf,ax p nm size g ks.length c (Ct f nm ks i o))∈(pf,ax p nm size g ks.length c (Ct f nm ks i o))::gs));have hcv:=bu (c:=cb) (by have hq:=(DK.out _ _ _ (λy hy=>ag _ (sM.out y hy)) hS).by;obtain⟨A',c',e,_,hq⟩:=hq;injection e with e1 e2 e3;subst e1;exact hq:By w' bF A b.length b);rw[HBB.out]at hcv;clear hS;go_simp;try with_reducible rfl
    go_simp;refine hK _ ?_;clear hK K
   refine wpPm_write (by rfl) (λK hK=> ?_);go_simp;refine(HV.out _ (HS.out.at_.below ((ak _ _).drew))).mono ?_;rintro e W6 ⟨rfl,hb⟩;have dC:=ae (HS.out.at_.below (((ak _ _).drew).trans hb));clear hb HV;refine hK.out _ _ (λw'=>At w0 p ((pf,ax p nm size g ks.length c (Ct f nm ks i o))::gs) s w') (λ_ h=>h) dC.out ?_;clear hK K;repeat
    refine az (v:= ?_) (by rfl) (by rfl) (λw' hS=> ?_) (λK hK=> ?_);rotate_left
    ·have hc:=aj w' pf (hS.get (af:(pf,ax p nm size g ks.length c (Ct f nm ks i o))∈(pf,ax p nm size g ks.length c (Ct f nm ks i o))::gs));clear hS;go_simp;try with_reducible rfl
    go_simp;refine hK _ ?_;clear hK K
   refine wpPm_write (by rfl) (λK hK=> ?_);go_simp;refine(LQ.out _).mono ?_;rintro e W7 ⟨rfl,hW7⟩;subst hW7;refine hK.out _ _ (λw'=>At w0 p ((pf,ax p nm size g ks.length c (Ct f nm ks i o))::gs) s w') (λ_ h=>h) dC.out ?_;clear hK K;show wpList _ _ _ _ _ _;go_wp2_with fail;refine(TU.out _).mono ?_;rintro e W8 ⟨rfl,hW8⟩;subst hW8;clear LQ TU hto;cases hq:Hs ks i r b x with
   |false=>
    have HJ:Hid (ZI w0 p pf g c size nm ks f gs s rows i r b (k+1) o W7):=ae ⟨dC.out,by
     have hl:=HS.out.last;have dV:k<(X.bQ ks i rows).length:=(by rw[PF.out];exact aW.out);rw[List.take_succ_eq_append_getElem dV,ZJ.out,qN,hq];exact hl,HS.out.none⟩
    clear hq dC HS;go_wp2;go_roundw
    case rel=>exact⟨k+1,aW.out,by go_num,o,HJ⟩
    case measure=>have h1:=aW.out;simp[intOf];omega
   |true=>
    have hl5:some x=(((X.bQ ks i rows).take (k+1)).filter (Hs ks i r b)).getLast? :=by
     have dV:k<(X.bQ ks i rows).length:=(by rw[PF.out];exact aW.out);rw[List.take_succ_eq_append_getElem dV,ZJ.out,qN,hq];rfl
    have HL5:=ae hl5;have h6:W7.heap[pf]? =some (ax p nm size g ks.length c (Ct f nm ks i o)):=dC.out.get af;have hz:=aC h6;have hc:=aj W7 pf h6;have ig:=ae (cz (f':=Ct f nm ks i (some x)) dC.out HGF.out HT.out (aA (aA (aA (aA (World.grownBy.refl W7 (some pf)) 6 (.int .i64 (i:Nat))) 7 (.string ee)) 8 (.bool true)) 9 (.bool false)) (by
     have:=aB (aB (aB (aB h6 6 (.int .i64 (i:Nat))) 7 (.string ee)) 8 (.bool true)) 9 (.bool false);rw[←HEE.out]at this⊢;cases o<;>exact this))
    have HQ:=ae hq;clear hl5 h6 hq dC;by_cases yf:r=3∨r=4
    ·have HJ:Hid (ZI w0 p pf g c size nm ks f gs s rows i r b (k+1) (some x) _):=ae ⟨ig.out,HL5.out,λh=>absurd yf h⟩;clear ig HS;rcases yf with hr3|hr4
     ·have n3:((r:Int) !=3)=false:=(by subst hr3;rfl);clear hr3;go_wp2;go_roundw
      case rel=>exact⟨k+1,aW.out,by go_num,some x,HJ⟩
      case measure=>have h1:=aW.out;simp[intOf];omega
     ·have n3:((r:Int) !=3)=true:=(by subst hr4;rfl);have n4:((r:Int) !=4)=false:=(by subst hr4;rfl);clear hr4;go_wp2;go_roundw
      case rel=>exact⟨k+1,aW.out,by go_num,some x,HJ⟩
      case measure=>have h1:=aW.out;simp[intOf];omega
    ·have n3:((r:Int) !=3)=true:=(by simp;omega);have n4:((r:Int) !=4)=true:=(by simp;omega);have hpl:pG ks i rows r b=some x:=by
      unfold pG;rw[if_neg yf];have dV:k<(X.bQ ks i rows).length:=(by rw[PF.out];exact aW.out);have ho:=HS.out.none yf;have og:=HS.out.last;rw[ho]at og;have:=PC dV (xd og.symm) (by rw[ZJ.out];exact HQ.out);rw[this,ZJ.out]
     have TV:=ae hpl;clear hpl yf HS;go_wp2;go_ret;rw[TV.out];exact⟨rfl,ig.out.less (λy hy=>by
      rcases au hy with rfl|hy
      ·exact af
      ·exact ag _ (sM.out y hy))⟩
  ·obtain rfl:k=n:=(by omega);have hpl:pG ks i rows r b=o:=by
    have og:=HS.out.last;rw[List.take_of_length_le (by rw[PF.out];exact Nat.le_refl _)]at og;unfold pG;by_cases yf:r=3∨r=4
    ·rw[if_pos yf];exact og.symm
    ·rw[if_neg yf];have ho:=HS.out.none yf;rw[ho]at og⊢;exact List.find?_eq_none.2 (λx hx=>by rw[xd og.symm x hx];decide)
   have TV:=ae hpl;have rM:=HS.out.at_;have hc:=aj wr pf (rM.get (af:(pf,ax p nm size g ks.length c (Ct f nm ks i o))∈(pf,ax p nm size g ks.length c (Ct f nm ks i o))::gs));have iD:=ae (rM.less (gs:=(pf,ax p nm size g ks.length c (Ct f nm ks i o))::fs) (λy hy=>by
    rcases au hy with rfl|hy
    ·exact af
    ·exact ag _ (sM.out y hy)))
   clear hpl HS rM;cases o with
   |none=>
    go_wp2;go_ret;rw[TV.out];exact⟨rfl,iD.out⟩
   |some x=>
    go_wp2;go_ret;rw[TV.out];exact⟨rfl,iD.out⟩
end
end Go.Proofs.YtipljcmmokaokaaGreat
