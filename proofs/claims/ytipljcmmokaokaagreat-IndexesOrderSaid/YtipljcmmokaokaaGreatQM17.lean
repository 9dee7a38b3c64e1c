import Derived.Test.YtipljcmmokaokaaGreatQM15
set_option linter.unusedVariables false
set_option linter.unusedSimpArgs false
set_option maxHeartbeats 2000000
namespace Go.Proofs.YtipljcmmokaokaaGreat
open Go.RowKit Go.Lib Go.Maps Go.WideMaps Go.Sort
set_option maxRecDepth 100000
theorem Hl:∀(x y:J.B),Lib.compareBytes x y=if x<y then -1 else if x=y then 0 else 1
 |[],[]=>rfl
 |[],_::_=>by rw[if_pos (List.nil_lt_cons _ _)];rfl
 |_::_,[]=>by rw[if_neg (List.not_lt_nil _),if_neg (by simp)];rfl
 |a::s,b::t=>by
  unfold Lib.compareBytes;rw[Hl s t];by_cases h1:a<b
  ·rw[if_pos h1,if_pos (R.mS.2 (.inl h1))]
  ·rw[if_neg h1];by_cases h2:b<a
   ·rw[if_pos h2,if_neg (fun h=>by
     rcases R.mS.1 h with h|⟨h,_⟩
     ·exact h1 h
     ·subst h;exact absurd h2 (by simp)),if_neg (fun h=>by injection h with h;subst h;exact absurd h2 (by simp))]
   ·have e:a=b:=by
     rw[R.LZ]at h1 h2;exact UInt8.toNat_inj.1 (by omega)
    subst e;rw[if_neg h2];have h3:a::s<a::t↔s<t:=by
     rw[R.mS];exact⟨fun h=>h.elim (fun h=>absurd h h1) (fun h=>h.2),fun h=> .inr ⟨rfl,h⟩⟩
    simp only[h3,List.cons.injEq,true_and]
def BV (r:Nat) (c:Int):Bool:=
 if r=0 then decide (c=0)else if r=1 then decide (0<c)else if r=2 then decide (0≤c)else if r=3 then decide (c<0)else if r=4 then decide (c≤0)else false
theorem Eu (r:Nat) (x y:J.B):BV r (Lib.compareBytes x y)=X.rel r x y:=by
 rw[Hl];unfold BV X.rel;by_cases h1:x<y
 ·have h2:¬y<x:=fun h=>List.lt_asymm h1 h;have h3:x≠y:=fun h=>by subst h;exact List.lt_irrefl _ h1
  rw[if_pos h1];simp[h1,h2,h3]
 ·rw[if_neg h1];by_cases h3:x=y
  ·subst h3;simp[List.lt_irrefl]
  ·have h2:y<x:=J.FP x y h1 h3;rw[if_neg h3];simp[h1,h2,h3]
theorem BW (r:Nat) (c:Int) (w:World) (hr:r≤5):
  Calls Tryz.prog 64 #[.int .u8 (r:Nat), .int .i64 c] w fun e w'=>e= .returned (.bool (BV r c))∧w=w':=by
 rcases(show r=0∨r=1∨r=2∨r=3∨r=4∨r=5 by omega)with rfl|rfl|rfl|rfl|rfl|rfl
 all_goals
  go_enter Tryz.func64,Tryz.ntmps64;go_wp2;go_ret;exact⟨rfl,rfl⟩
theorem BX {w0:World} {p pf:Nat} {F:Obj} {s:J.St} {fs:List (Nat×Obj)} {w w':World} {A:Option Addr} {ls:List J.B} (h:At w0 p ((pf,F)::fs) s w) (hf:∀x∈fs,x.1≠pf) (hb:Below w.heap.size w w') (hs:kP w' A ls) (hg:∀g,A=some ⟨g,0,none⟩→w.heap.size≤g):
  ∃gs,(∀x∈fs,x∈gs)∧(∀x∈gs,x.1≠pf)∧At w0 p ((pf,F)::gs) s w'∧∀lh t W,At w0 p lh t W→(∀x∈gs,x∈lh)→kP W A ls:=by
 by_cases hk:0<ls.length
 ·obtain⟨g,e,hl,hc⟩:=hs hk;obtain⟨o,ho⟩:∃o,w'.heap[g]? =some o:=⟨_,Array.getElem?_eq_getElem hl⟩;have hpl:pf<w.heap.size:=(ah (h.get ae)).1;have sN:=hg g e;refine⟨(g,o)::fs,fun x hx=>af _ hx,fun x hx=> ?_, ?_,fun lh t W hW ie=>fun _=> ?_⟩
  ·rcases ak hx with rfl|hx
   ·show g≠pf;omega
   ·exact hf x hx
  ·refine(h.add hb (gs:=[(g,o)]) (fun x hx=>by simp only[List.mem_singleton]at hx;subst hx;exact⟨sN,ho⟩)).less (fun x hx=> ?_);rcases ak hx with rfl|hx
   ·simp
   ·rcases ak hx with rfl|hx
    ·simp
    ·simp[hx]
  ·have hW2:=hW.get (ie _ ae);exact⟨g,e,(ah hW2).1,fun j hj=>(World.cell?_of_block (hW2.trans ho.symm)).trans (hc j hj)⟩
 ·exact⟨fs,fun x hx=>hx,hf,h.below hb,fun _ t W _ _ h0=>absurd h0 hk⟩
def Ag (f:Fv) (nm:J.B) (ks:List X.Ky) (i:Nat):Option X.Row→Fv
 |none=>{f with at_:=[],same:=false,lost:=true,read:=false}
 |some x=>{f with key:=i,at_:=X.aJ nm ks i x,same:=true,lost:=false,read:=false}
def Ev (ks:List X.Ky) (i r:Nat) (b:J.B) (x:X.Row):Bool:=X.rel r ((X.val ks i x.b).take b.length) b
def pF (ks:List X.Ky) (i:Nat) (rows:List X.Row) (r:Nat) (b:J.B):Option X.Row:=
 if r=3∨r=4 then((X.bS ks i rows).filter (Ev ks i r b)).getLast? else(X.bS ks i rows).find? (Ev ks i r b)
def Ym (o:Option X.Row):J.B:=if o.isSome then [48,48]else [50,51]
theorem qx {α:Type} (q:α→Bool) (l:List α) (x:α):((l++[x]).filter q).getLast? =if q x=true then some x else(l.filter q).getLast? :=by
 rw[List.filter_append];cases h:q x
 ·simp[h]
 ·simp[h]
theorem wm {α:Type} {q:α→Bool} {l:List α} (h:(l.filter q).getLast? =none):∀x∈l,q x=false:=fun x hx=>by
 have h2:l.filter q=[]:=List.getLast?_eq_none_iff.1 h;cases hq:q x with
 |false=>rfl
 |true=>
  have:=List.mem_filter.2 ⟨hx,hq⟩;rw[h2]at this;cases this
theorem Ks {α:Type} {q:α→Bool} {l:List α} {k:Nat} (hk:k<l.length) (h:∀x∈l.take k,q x=false) (hq:q l[k]=true):l.find? q=some l[k]:=by
 conv=>lhs;rw[←List.take_append_drop k l,List.drop_eq_getElem_cons hk]
 rw[List.find?_append,List.find?_eq_none.2 (fun x hx=>by rw[h x hx];decide),List.find?_cons,hq];rfl
section
variable {w0 : World} {p pf g c size ct u : Nat} {nm : J.B} {ks : List X.Ky} {rows : List X.Row} {f : Fv} {w w' : World} {s s1 s2 : J.St} {fs : List (Nat × Obj)} {ok : Obj}
theorem zk (h0:w.heap[pf]? =some (av p nm size g ks.length c f)) (hs:X.cB [52,55] [1,3] f.mode≠[48,48]) (k:Int) (r:Nat) (A:Option Addr) (m cb:Nat):
  Calls Tryz.prog 19 #[.pointer (some ⟨pf,0,none⟩), .int .i64 k, .int .u8 (r:Nat), .slice A m cb] w fun e w'=>e= .returned (.string ⟨(X.cB [52,55] [1,3] f.mode).toArray⟩)∧Below w.heap.size w w':=by
 have bR:=aa (aQ h0 [52,55] [1,3] 2 #[.int .u8 1, .int .u8 3] rfl rfl (by decide) w.heap.size rfl);have hne:=rV hs;have HB:=aa ((ai _ w).alloc (aj _) (.cells #[.int .u8 1, .int .u8 3] 32));generalize(⟨(X.cB [52,55] [1,3] f.mode).toArray⟩:ByteArray)=st at bR hne⊢;clear h0 hs;go_enter Tryz.func19,Tryz.ntmps19;go_wp2_with fail;refine bR.out.mono ?_;rintro e W1 ⟨rfl,hW1⟩;subst hW1;clear bR;go_wp2;go_ret;exact⟨rfl,HB.out⟩
theorem BZ (h:At w0 p ((pf,av p nm size g ks.length c f)::fs) s w) (hf:∀x∈fs,x.1≠pf) (bq:(g,ok)∈fs) (hO:bI ok ks) (ht:J.Two s) (hX:XF nm size ks rows ct s.now) (hs:X.cB [52,55] [1,3] f.mode=[48,48]) (k:Int) (r:Nat) (A:Option Addr) (cb:Nat) (b:J.B) (hk:k<0∨ks.length≤k∨b.length=0∨(X.aF ks k.toNat).len<b.length):
  Calls Tryz.prog 19 #[.pointer (some ⟨pf,0,none⟩), .int .i64 k, .int .u8 (r:Nat), .slice A b.length cb] w fun e w'=>e= .returned (.string ⟨#[50,51]⟩)∧At w0 p ((pf,av p nm size g ks.length c {f with at_:=[],same:=false,lost:=true,read:=false})::fs) s w':=by
 have hlt:=(ah (h.get ae)).1;have hlt:pf<w.heap.size:=hlt;have bR:=aa (aQ (h.get ae) [52,55] [1,3] 2 #[.int .u8 1, .int .u8 3] rfl rfl (by decide) w.heap.size rfl);rw[hs]at bR;have HA:=aa (h.below ((ai _ w).alloc (aj _) (.cells #[.int .u8 1, .int .u8 3] 32)));have HF:=aa (fun w1 (hh:At w0 p ((pf,av p nm size g ks.length c f)::fs) s w1) w2 (hg:w1.grownBy w2 (some pf)) (hr:w2.heap[pf]? =some (av p nm size g ks.length c {f with at_:=[],same:=false,lost:=true,read:=false}))=>bc hh hf ht hg hr);have dK:=aa (fun w1 (hh:At w0 p ((pf,av p nm size g ks.length c {f with at_:=[],same:=false,lost:=true,read:=false})::fs) s w1)=>hO.2 w1 g (hh.get (af _ bq)));clear hf bq hO ht hX;clear h hs;go_enter Tryz.func19,Tryz.ntmps19;go_wp2_with fail;refine bR.out.mono ?_;rintro e W1 ⟨rfl,hW1⟩;subst hW1;clear bR;refine aG (fun X=>At w0 p ((pf,av p nm size g ks.length c f)::fs) s X∧Below w.heap.size w X) ⟨HA.out,(ai _ w).alloc (aj _) _⟩ ?_;rintro W ⟨ha,kN⟩;clear HA;go_wp2_with fail;refine(kK (ha.get ae)).mono ?_;rintro e W2 ⟨⟨_,rfl⟩,hg,hr⟩;have ha2:=HF.out _ ha _ hg hr;have bB:Hid (w.heap.size≤W2.heap.size):=aa (au kN.size hg.size);clear hg hr HF ha kN;have hc:=fun j=>ag W2 pf j _ _ _ (ha2.get (ae:(pf,av p nm size g ks.length c {f with at_:=[],same:=false,lost:=true,read:=false})∈(pf,av p nm size g ks.length c {f with at_:=[],same:=false,lost:=true,read:=false})::fs));have bh:=dK.out _ ha2;have dD:=aa ha2;clear ha2 dK;by_cases k0:k<0
 ·clear bh hk;go_wp2;go_ret;exact⟨rfl,dD.out⟩
 ·by_cases k1:(ks.length:Int)≤k
  ·clear bh hk;go_wp2;go_ret;exact⟨rfl,dD.out⟩
  ·by_cases k2:b.length=0
   ·have k3:(b.length:Int)=0:=(by omega);clear bh hk;go_wp2;go_ret;exact⟨rfl,dD.out⟩
   ·obtain⟨i,rfl⟩:∃i:Nat,k=i:=⟨k.toNat,by omega⟩;have hi:i<ks.length:=(by omega);have hl:=bh.len hi;have k4:(X.aF ks i).len<b.length:=by
     rcases hk with h|h|h|h
     ·omega
     ·omega
     ·omega
     ·exact h
    have k5:((X.aF ks i).len:Int)<(b.length:Nat):=(by omega);have k6:¬(b.length:Int)=0:=(by omega);have k7:(i:Int)<(ks.length:Nat):=(by omega);have k8:¬b=[]:=fun e=>by rw[e]at k2;exact k2 rfl
    clear bh hk k2 k4 hi;go_wp2;go_ret;exact⟨rfl,dD.out⟩
structure Sq (w0:World) (p pf g c size:Nat) (nm:J.B) (ks:List X.Ky) (f:Fv) (gs:List (Nat×Obj)) (s:J.St) (rows:List X.Row) (i r:Nat) (b:J.B) (k:Nat) (o:Option X.Row) (W:World):Prop where
 at_:At w0 p ((pf,av p nm size g ks.length c (Ag f nm ks i o))::gs) s W
 last:o=(((X.bS ks i rows).take k).filter (Ev ks i r b)).getLast?
 none:¬(r=3∨r=4)→o=none
theorem Ew (h:At w0 p ((pf,av p nm size g ks.length c f)::fs) s w) (hf:∀x∈fs,x.1≠pf) (bq:(g,ok)∈fs) (hO:bI ok ks) (ht:J.Two s) (hX:XF nm size ks rows ct s.now) (hs:X.cB [52,55] [1,3] f.mode=[48,48]) (i r:Nat) (hr:r≤5) (A:Option Addr) (cb:Nat) (b:J.B) (gQ:Src w0 p fs (.slice A b.length cb) b) (hi:i<ks.length) (hb0:b.length≠0) (hbl:b.length≤(X.aF ks i).len):
  Calls Tryz.prog 19 #[.pointer (some ⟨pf,0,none⟩), .int .i64 (i:Nat), .int .u8 (r:Nat), .slice A b.length cb] w fun e w'=>e= .returned (.string ⟨(Ym (pF ks i rows r b)).toArray⟩)∧At w0 p ((pf,av p nm size g ks.length c (Ag f nm ks i (pF ks i rows r b)))::fs) s w':=by
 have hlt:=(ah (h.get ae)).1;have hlt:pf<w.heap.size:=hlt;have bR:=aa (aQ (h.get ae) [52,55] [1,3] 2 #[.int .u8 1, .int .u8 3] rfl rfl (by decide) w.heap.size rfl);rw[hs]at bR;have HA:=aa (h.below ((ai _ w).alloc (aj _) (.cells #[.int .u8 1, .int .u8 3] 32)));have HF:=aa (fun w1 (hh:At w0 p ((pf,av p nm size g ks.length c f)::fs) s w1) w2 (hg:w1.grownBy w2 (some pf)) (hr:w2.heap[pf]? =some (av p nm size g ks.length c {f with at_:=[],same:=false,lost:=true,read:=false}))=>bc hh hf ht hg hr);have dK:=aa (fun w1 (hh:At w0 p ((pf,av p nm size g ks.length c {f with at_:=[],same:=false,lost:=true,read:=false})::fs) s w1)=>hO.2 w1 g (hh.get (af _ bq)));have Fw:(i:Int)<(ks.length:Nat):=by omega
 have AD:¬(i:Int)<0:=by omega
 have Kg:¬(ks.length:Int)≤(i:Nat):=by omega
 have hb1:¬(b.length:Int)=0:=by omega
 have hb3:¬b=[]:=fun e=>by rw[e]at hb0;exact hb0 rfl
 have hb4:((b.length:Int)==0)=false:=by simpa using hb3
 have hb2:¬((X.aF ks i).len:Int)<(b.length:Nat):=by omega
 have hl2:=hX.lens hi;have HP:=aa (fun W=>aZ nm size (some ⟨g,0,none⟩) ks.length c i (by have:=hX.ks.one;omega) (by have:=hX.nm;omega) W);have xm:=fun w1 (hh:At w0 p ((pf,av p nm size g ks.length c {f with at_:=[],same:=false,lost:=true,read:=false})::fs) s w1)=>kX hh ⟨(X.pre nm i).toArray⟩ (by have:=hX.many;omega);rw[hX.con.jH (by have:=hX.ks.one;omega) hX.rows (by have:=hX.ct;omega) hi]at xm;have sU:=aa xm;have HX:=aa hX;have HO:=aa hO;have oM:=aa bq;have xn:=aa gQ;have O4:=aa hf;have HT:=aa ht;have PK:=aa (fun a b W=>Tryz.strings_Compare a b W);have Wd:=aa (fun c w=>BW r c w hr);have HI:=aa hi;generalize(⟨(X.pre nm i).toArray⟩:ByteArray)=P at HP sU;clear hf bq hO ht hX gQ xm hr;clear h hs;go_enter Tryz.func19,Tryz.ntmps19;go_wp2_with fail;refine bR.out.mono ?_;rintro e W1 ⟨rfl,hW1⟩;subst hW1;clear bR;refine aG (fun X=>At w0 p ((pf,av p nm size g ks.length c f)::fs) s X∧Below w.heap.size w X) ⟨HA.out,(ai _ w).alloc (aj _) _⟩ ?_;rintro W ⟨ha,kN⟩;clear HA;go_wp2_with fail;refine(kK (ha.get ae)).mono ?_;rintro e W2 ⟨⟨_,rfl⟩,hg,hr⟩;have ha2:=HF.out _ ha _ hg hr;have bB:Hid (w.heap.size≤W2.heap.size):=aa (au kN.size hg.size);clear hg hr HF ha kN;have hc:=fun j=>ag W2 pf j _ _ _ (ha2.get (ae:(pf,av p nm size g ks.length c {f with at_:=[],same:=false,lost:=true,read:=false})∈(pf,av p nm size g ks.length c {f with at_:=[],same:=false,lost:=true,read:=false})::fs));have hl:=(dK.out _ ha2).len hi;have dD:=aa ha2;clear ha2 dK;go_wp2_with fail;clear hi hl hc hb2 hb1 AD Kg hb3 hb4;refine aL (.rd 0 (.rd 1 (.rd 2 (.rd 3 (.rd 4 (.rd 5 (.rd 6 (.rd 7 (.rd 8 (.rd 12 (.wr 9 (.wr 10 (.rd 11 .fin))))))))))))) (fun w'=>At w0 p ((pf,av p nm size g ks.length c {f with at_:=[],same:=false,lost:=true,read:=false})::fs) s w') (by kernel_rfl) (by kernel_rfl) (fun c a d v w h=>by cases d<;>exact h) (dD.out.below ((ai _ _).drew)) ?_;repeat
  refine aw (v:= ?_) (by rfl) (by rfl) (fun w' hS=> ?_) (fun K hK=> ?_);rotate_left
  ·have hc:=fun j=>ag w' pf j _ _ _ (hS.get (ae:(pf,av p nm size g ks.length c {f with at_:=[],same:=false,lost:=true,read:=false})∈(pf,av p nm size g ks.length c {f with at_:=[],same:=false,lost:=true,read:=false})::fs));clear hS;go_simp;try with_reducible rfl
  go_simp;refine hK _ ?_;clear hK K
 refine wpPm_write (by rfl) (fun K hK=> ?_);go_simp;refine(HP.out _).mono ?_;rintro e W3 ⟨rfl,hb⟩;have hb:Below W2.heap.size W2 W3:=((ai _ W2).drew).trans hb;have bH:=aa (dD.out.below hb);clear hb HP;refine hK.out _ _ (fun w'=>At w0 p ((pf,av p nm size g ks.length c {f with at_:=[],same:=false,lost:=true,read:=false})::fs) s w') (fun _ h=>h) bH.out ?_;clear hK K;refine wpPm_write (by rfl) (fun K hK=> ?_);go_simp;refine(sU.out _ bH.out).mono ?_;rintro e W4 ⟨A4,rfl,hst,xi,hb4,sN⟩;have bG:=aa xi;obtain⟨gs,Ex,We,Mj,zl⟩:=BX bH.out O4.out hb4 hst sN;have sV:=aa Ex;have Yn:=aa We;have P7:=aa Mj;have HST:=aa zl;clear hst xi hb4 sN Ex We Mj zl sU dD bH;refine hK.out _ _ (fun w'=>At w0 p ((pf,av p nm size g ks.length c {f with at_:=[],same:=false,lost:=true,read:=false})::fs) s w') (fun _ h=>h) bG.out ?_;clear hK K;repeat
  refine aw (v:= ?_) (by rfl) (by rfl) (fun w' hS=> ?_) (fun K hK=> ?_);rotate_left
  ·have hc:=fun j=>ag w' pf j _ _ _ (hS.get (ae:(pf,av p nm size g ks.length c {f with at_:=[],same:=false,lost:=true,read:=false})∈(pf,av p nm size g ks.length c {f with at_:=[],same:=false,lost:=true,read:=false})::fs));clear hS;go_simp;try with_reducible rfl
  go_simp;refine hK _ ?_;clear hK K
 show wpList _ _ _ _ _ _;have xa:((X.bS ks i rows).map (X.aJ nm ks i)).length=(X.bS ks i rows).length:=List.length_map ..;try rw[xa]
 have C8:=aa xa;clear xa bG;have TR:(X.bS ks i rows).length≤100000:=by
  have h1:=HX.out.con.jH (by have:=HX.out.ks.one;omega) HX.out.rows (by have:=HX.out.ct;omega) HI.out;have h2:=lx s.now ⟨(X.pre nm i).toArray⟩;rw[h1,List.length_map]at h2;have:=HX.out.many;omega
 generalize NA:(X.bS ks i rows).length=n at TR;have NB:=aa NA;clear NA;go_wp2;have ib:Hid (Sq w0 p pf g c size nm ks f gs s rows i r b 0 none W4):=aa ⟨P7.out,rfl,fun _=>rfl⟩;clear P7;go_loopw [63] (fun t W=>∃k:Nat,k≤n∧t= .int .i64 k∧∃o,Hid (Sq w0 p pf g c size nm ks f gs s rows i r b k o W)) (fun t _=>n - (intOf t).toNat)
 case atStart=>exact⟨0,Nat.zero_le _,rfl,none,ib⟩
 case round=>
  clear ib;obtain⟨k,hk,rfl,o,HS⟩:=hrel;by_cases hlt:k<n
  ·have fR:k<(X.bS ks i rows).length:=(by rw[NB.out];exact hlt);obtain⟨g4,rfl,z7,uy⟩:=HST.out _ _ _ HS.out.at_ cM (by rw[C8.out];omega);have gX:=uy k (by rw[C8.out];exact fR);rw[List.getElem_map]at gX;have C3:(X.bS ks i rows)[k]∈rows:=(X.bm ks i _ rows).1 (List.getElem_mem fR);have P8:(X.bS ks i rows)[k]? =some (X.bS ks i rows)[k]:=List.getElem?_eq_getElem fR;generalize O5:(X.bS ks i rows)[k]=x at gX C3;replace gX:wr.cell? ⟨g4,k,none⟩=some (.string ⟨(X.aJ nm ks i x).toArray⟩):=gX;have O6:=aa O5;have a7:=aa hlt;have HV:=aa (fun w1 (hh:At w0 p ((pf,av p nm size g ks.length c (Ag f nm ks i o))::gs) s w1)=>lO (c:=c) HX.out HI.out C3 w1 (HO.out.2 w1 g (hh.get (af _ (sV.out _ oM.out)))));have rr:=HX.out.vlen HI.out C3;have TT:=rQ (X.val ks i x.b) b.length (by rw[rr];exact hbl);have hcm:=PK.out ⟨((X.val ks i x.b).take b.length).toArray⟩ ⟨b.toArray⟩;rw[show(⟨((X.val ks i x.b).take b.length).toArray⟩:ByteArray).data.toList=(X.val ks i x.b).take b.length from rfl,show(⟨b.toArray⟩:ByteArray).data.toList=b from rfl]at hcm;have Sr:=fun w=>Wd.out (Lib.compareBytes ((X.val ks i x.b).take b.length) b) w;rw[Eu]at Sr;have hq:X.rel r ((X.val ks i x.b).take b.length) b=Ev ks i r b x:=rfl;rw[hq]at Sr;have Hm:=aa hcm;have NC:=aa Sr;have l9:∀j,(Ag f nm ks i o).key=j→True:=fun _ _=>trivial;clear uy z7 P8 O5 hcm Sr hq rr C3 l9;generalize Lib.compareBytes ((X.val ks i x.b).take b.length) b=cc at Hm NC;generalize(⟨((X.val ks i x.b).take b.length).toArray⟩:ByteArray)=vt at TT Hm;generalize iX:(⟨(X.val ks i x.b).toArray⟩:ByteArray)=vv at TT HV;generalize PY:(⟨b.toArray⟩:ByteArray)=bb at Hm;have TI:=aa PY;generalize Fx:(⟨(X.aJ nm ks i x).toArray⟩:ByteArray)=ee at gX HV;have Yo:=aa Fx;clear iX PY Fx;go_wp2_with fail;refine aA 14 (.rd 0 (.rd 1 (.rd 2 (.rd 3 (.rd 4 (.rd 5 (.rd 6 (.rd 8 (.rd 9 (.rd 11 (.rd 12 (.wr 7 (.rd 10 (.wr 13 .fin)))))))))))))) (fun w'=>At w0 p ((pf,av p nm size g ks.length c (Ag f nm ks i o))::gs) s w') (by kernel_rfl) (by kernel_rfl) (fun c a d v w h=>by cases d<;>exact h) (HS.out.at_.below ((ai _ _).drew)) ?_;repeat
    refine aw (v:= ?_) (by rfl) (by rfl) (fun w' hS=> ?_) (fun K hK=> ?_);rotate_left
    ·have hc:=fun j=>ag w' pf j _ _ _ (hS.get (ae:(pf,av p nm size g ks.length c (Ag f nm ks i o))∈(pf,av p nm size g ks.length c (Ag f nm ks i o))::gs));have hcv:=bN (c:=cb) (by have hq:=(xn.out _ _ _ (fun y hy=>af _ (sV.out y hy)) hS).by;obtain⟨A',c',e,_,hq⟩:=hq;injection e with e1 e2 e3;subst e1;exact hq:By w' bL A b.length b);rw[TI.out]at hcv;clear hS;go_simp;try with_reducible rfl
    go_simp;refine hK _ ?_;clear hK K
   refine wpPm_write (by rfl) (fun K hK=> ?_);go_simp;refine(HV.out _ (HS.out.at_.below ((ai _ _).drew))).mono ?_;rintro e W6 ⟨rfl,hb⟩;have bK:=aa (HS.out.at_.below (((ai _ _).drew).trans hb));clear hb HV;refine hK.out _ _ (fun w'=>At w0 p ((pf,av p nm size g ks.length c (Ag f nm ks i o))::gs) s w') (fun _ h=>h) bK.out ?_;clear hK K;repeat
    refine aw (v:= ?_) (by rfl) (by rfl) (fun w' hS=> ?_) (fun K hK=> ?_);rotate_left
    ·have hc:=fun j=>ag w' pf j _ _ _ (hS.get (ae:(pf,av p nm size g ks.length c (Ag f nm ks i o))∈(pf,av p nm size g ks.length c (Ag f nm ks i o))::gs));clear hS;go_simp;try with_reducible rfl
    go_simp;refine hK _ ?_;clear hK K
   refine wpPm_write (by rfl) (fun K hK=> ?_);go_simp;refine(Hm.out _).mono ?_;rintro e W7 ⟨rfl,Yp⟩;subst Yp;refine hK.out _ _ (fun w'=>At w0 p ((pf,av p nm size g ks.length c (Ag f nm ks i o))::gs) s w') (fun _ h=>h) bK.out ?_;clear hK K;show wpList _ _ _ _ _ _;go_wp2_with fail;refine(NC.out _).mono ?_;rintro e W8 ⟨rfl,Yq⟩;subst Yq;clear Hm NC TT;cases hq:Ev ks i r b x with
   |false=>
    have HJ:Hid (Sq w0 p pf g c size nm ks f gs s rows i r b (k+1) o W7):=aa ⟨bK.out,by
     have hl:=HS.out.last;have fR:k<(X.bS ks i rows).length:=(by rw[NB.out];exact a7.out);rw[List.take_succ_eq_append_getElem fR,O6.out,qx,hq];exact hl,HS.out.none⟩
    clear hq bK HS;go_wp2;go_roundw
    case rel=>exact⟨k+1,a7.out,by go_num,o,HJ⟩
    case measure=>have h1:=a7.out;simp[intOf];omega
   |true=>
    have P9:some x=(((X.bS ks i rows).take (k+1)).filter (Ev ks i r b)).getLast? :=by
     have fR:k<(X.bS ks i rows).length:=(by rw[NB.out];exact a7.out);rw[List.take_succ_eq_append_getElem fR,O6.out,qx,hq];rfl
    have Yr:=aa P9;have h6:W7.heap[pf]? =some (av p nm size g ks.length c (Ag f nm ks i o)):=bK.out.get ae;have hz:=az h6;have hc:=fun j=>ag W7 pf j _ _ _ h6;have jd:=aa (bc (f':=Ag f nm ks i (some x)) bK.out Yn.out HT.out (ay (ay (ay (ay (World.grownBy.refl W7 (some pf)) 6 (.int .i64 (i:Nat))) 7 (.string ee)) 8 (.bool true)) 9 (.bool false)) (by
     have:=aC (aC (aC (aC h6 6 (.int .i64 (i:Nat))) 7 (.string ee)) 8 (.bool true)) 9 (.bool false);rw[←Yo.out]at this⊢;cases o<;>exact this))
    have HQ:=aa hq;clear P9 h6 hq bK;by_cases xo:r=3∨r=4
    ·have HJ:Hid (Sq w0 p pf g c size nm ks f gs s rows i r b (k+1) (some x) _):=aa ⟨jd.out,Yr.out,fun h=>absurd xo h⟩;clear jd HS;rcases xo with hr3|hr4
     ·have n3:((r:Int) !=3)=false:=(by subst hr3;rfl);clear hr3;go_wp2;go_roundw
      case rel=>exact⟨k+1,a7.out,by go_num,some x,HJ⟩
      case measure=>have h1:=a7.out;simp[intOf];omega
     ·have n3:((r:Int) !=3)=true:=(by subst hr4;rfl);have n4:((r:Int) !=4)=false:=(by subst hr4;rfl);clear hr4;go_wp2;go_roundw
      case rel=>exact⟨k+1,a7.out,by go_num,some x,HJ⟩
      case measure=>have h1:=a7.out;simp[intOf];omega
    ·have n3:((r:Int) !=3)=true:=(by simp;omega);have n4:((r:Int) !=4)=true:=(by simp;omega);have hpl:pF ks i rows r b=some x:=by
      unfold pF;rw[if_neg xo];have fR:k<(X.bS ks i rows).length:=(by rw[NB.out];exact a7.out);have ho:=HS.out.none xo;have ry:=HS.out.last;rw[ho]at ry;have:=Ks fR (wm ry.symm) (by rw[O6.out];exact HQ.out);rw[this,O6.out]
     have Ss:=aa hpl;clear hpl xo HS;go_wp2;go_ret;rw[Ss.out];exact⟨rfl,jd.out.less (fun y hy=>by
      rcases ak hy with rfl|hy
      ·exact ae
      ·exact af _ (sV.out y hy))⟩
  ·obtain rfl:k=n:=(by omega);have hpl:pF ks i rows r b=o:=by
    have ry:=HS.out.last;rw[List.take_of_length_le (by rw[NB.out];exact Nat.le_refl _)]at ry;unfold pF;by_cases xo:r=3∨r=4
    ·rw[if_pos xo];exact ry.symm
    ·rw[if_neg xo];have ho:=HS.out.none xo;rw[ho]at ry⊢;exact List.find?_eq_none.2 (fun x hx=>by rw[wm ry.symm x hx];decide)
   have Ss:=aa hpl;have jY:=HS.out.at_;have hc:=fun j=>ag wr pf j _ _ _ (jY.get (ae:(pf,av p nm size g ks.length c (Ag f nm ks i o))∈(pf,av p nm size g ks.length c (Ag f nm ks i o))::gs));have gC:=aa (jY.less (gs:=(pf,av p nm size g ks.length c (Ag f nm ks i o))::fs) (fun y hy=>by
    rcases ak hy with rfl|hy
    ·exact ae
    ·exact af _ (sV.out y hy)))
   clear hpl HS jY;cases o with
   |none=>
    go_wp2;go_ret;rw[Ss.out];exact⟨rfl,gC.out⟩
   |some x=>
    go_wp2;go_ret;rw[Ss.out];exact⟨rfl,gC.out⟩
end
end Go.Proofs.YtipljcmmokaokaaGreat
