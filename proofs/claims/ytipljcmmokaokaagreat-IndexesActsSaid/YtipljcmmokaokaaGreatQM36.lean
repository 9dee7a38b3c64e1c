import Derived.Test.YtipljcmmokaokaaGreatQM33
set_option linter.unusedVariables false
set_option linter.unusedSimpArgs false
set_option maxHeartbeats 40000000
namespace Go.Proofs.YtipljcmmokaokaaGreat
open Go.RowKit Go.Lib Go.Maps Go.WideMaps Go.Sort
set_option maxRecDepth 100000
section
variable {w0 : World} {p pf g c size ct u : Nat} {nm : J.B} {ks : List X.Ky} {rows : List X.Row} {f : Fv} {w w' : World} {s s1 s2 : J.St} {fs : List (Nat × Obj)} {ok : Obj}
variable {o : X.Row} {p0 : J.B}
theorem IY {B:Nat} {v:Value} (h:w.heap[B]? =some (bP v)) (hv:∃A n c,v= .slice A n c):vQ w B:=by
 obtain⟨A,n,c,rfl⟩:=hv;refine⟨λo u v hh=> ?_,λ⟨_,cur,fr,e⟩=> ?_⟩
 ·rw[cell_of_row w B o _ _ _ h,cell_of_row w B (o+1) _ _ _ h]at hh;obtain⟨h1,h2⟩:=hh;rcases o with _|o<;>simp at h1 h2
 ·rw[h]at e;injection e with e;injection e with e1 e2;exact absurd e2 (by decide)
theorem At.gC {B:Nat} {v:Value} (h:At w0 p ((B,bP v)::fs) s w) (hv:∃A n c,v= .slice A n c) (hf:∀x∈fs,x.1≠B) (ht:J.Two s) (v':Value):At w0 p ((B,bP v')::fs) s (w.setCell ⟨B,0,none⟩ v'):=
 h.turn hf ht (IY (h.get af) hv) (aA (World.grownBy.refl w (some B)) 0 _) (aB (h.get af) 0 _)
theorem QO {gs:List (Nat×Obj)} {W:World} {Bf Bp Bo:Nat} {pv:ByteArray} (h:At w0 p gs s W) (A:Option Addr) (cb:Nat) (yG:(⟨p0.toArray⟩:ByteArray)=pv) (hF:(pf,ax p nm size g ks.length c f)∈gs) (Ad:(Bf,aO pf)∈gs) (Ae:(Bp,aS pv)∈gs) (Hy:(Bo,bP (.slice A o.b.length cb))∈gs) (bC:(g,ok)∈gs) (hO:bJ ok ks) (hcap:ks.length≤c)
  (hZ:X.pn u s.now s) (hu:u≤340) (hX:XF nm size ks rows ct s.now) (Cx:Src w0 p gs (.slice A o.b.length cb) o.b) (dK:rows.find? (λr=>decide (X.val ks 0 r.b=p0))=some o) (hro:rows.length≤u):
  Calls Tryz.prog 45 #[.pointer (some ⟨pf,0,none⟩), .func (.func 73) #[] #[.pointer (some ⟨Bf,0,none⟩), .pointer (some ⟨Bp,0,none⟩), .pointer (some ⟨Bo,0,none⟩)]] W λe w'=>e= .returned (.string ⟨#[48,48]⟩)∧
   ∃s1 now,At w0 p gs (J.aL s1) w'∧X.Tx u s s1 now∧X.iw nm (X.attr size ks) ks (X.iB ks rows p0) ct now:=by
 subst yG;refine(pE (f:=f) (nm:=nm) (size:=size) (g:=g) (ks:=ks) (c:=c) h hF hZ.opn 73 _ (enters_of Tryz.func73 (by kernel_rfl) rfl) (λs1=>∃now,X.Tx u s s1 now∧X.iw nm (X.attr size ks) ks (X.iB ks rows p0) ct now)
  (λw1 ha=> ?_) (λs1 w1 ha hR=> ?_)).mono ?_
 ·refine(Mc (by rw[X.qE]at ha;exact ha) (f:=f) hF bC hO hcap Bf Bp Bo A cb Ad Ae Hy hX ⟨X.mK hZ,by simp[J.encs], .inl rfl⟩ Cx dK).mono ?_;rintro e w' ⟨hv,chs,now,hI⟩;have h1:=hX.ks.one;have hcon:=X.LH (j:=ks.length - 1) (by omega) hX.rows hI.mix;refine⟨hv,_,hI.at_,now,Mv hZ hu hX.ks ⟨hI.tx.inv,by have:=hI.tx.len;omega, .inr (hI.tx.mn.resolve_left (by omega))⟩ hcon (X.wT hX.rows p0) (by have:=hX.ct;omega) ?_,hcon⟩;have:=X.wU ks rows p0;omega
 ·obtain⟨now,hx,_⟩:=hR;exact rV hx _ _ ha
 ·rintro e w' ⟨rfl,s1,ha,now,hx,hc⟩;exact⟨rfl,s1,now,ha,hx,hc⟩
theorem Ga:(∀{w0:World} {p pf g c size ct u:Nat} {nm:J.B} {ks:List X.Ky} {rows:List X.Row} {f:Fv} {w:World} {s:J.St} {fs:List (Nat×Obj)} {ok:Obj} (h:At w0 p ((pf,ax p nm size g ks.length c f)::fs) s w) (hf:∀x∈fs,x.1≠pf) (bC:(g,ok)∈fs) (hO:bJ ok ks) (hcap:ks.length≤c) (ht:J.Two s) (hX:XF nm size ks rows ct s.now) (b:J.B) (A:Option Addr) (cb:Nat) (hs:X.bM [52,57] [3] f.mode=[48,48]) (dJ:f.ord=false) (vI:(X.aF ks 0).at_+(X.aF ks 0).len≤b.length) (hbl:b.length≤1000000) (BU:(X.val ks 0 b).length≤160) (dX:Src w0 p fs (.slice A b.length cb) b) {o:X.Row} (dK:rows.find? (λr=>decide (X.val ks 0 r.b=X.val ks 0 b))=some o) (hZ:X.pn u s.now s) (hu:u≤340) (hro:rows.length≤u),Calls Tryz.prog 27 #[.pointer (some ⟨pf,0,none⟩), .slice A b.length cb] w λe w'=>e= .returned (.string ⟨#[48,48]⟩)∧∃s1 now,At w0 p ((pf,ax p nm size g ks.length c {f with read:=false})::fs) (J.aL s1) w'∧X.Tx u s s1 now∧X.iw nm (X.attr size ks) ks (X.iB ks rows (X.val ks 0 b)) ct now)∧(∀{w0:World} {p pf g c size ct u:Nat} {nm:J.B} {ks:List X.Ky} {rows:List X.Row} {f:Fv} {w:World} {s:J.St} {fs:List (Nat×Obj)} {ok:Obj} (h:At w0 p ((pf,ax p nm size g ks.length c f)::fs) s w) (hf:∀x∈fs,x.1≠pf) (bC:(g,ok)∈fs) (hO:bJ ok ks) (hcap:ks.length≤c) (ht:J.Two s) (hX:XF nm size ks rows ct s.now) (b:J.B) (A:Option Addr) (cb:Nat) (hs:X.bM [52,57] [3] f.mode=[48,48]) (dJ:f.ord=true) (ov:f.read=true) (BU:f.last.length≤160) {o:X.Row} (dK:rows.find? (λr=>decide (X.val ks 0 r.b=f.last))=some o) (hZ:X.pn u s.now s) (hu:u≤340) (hro:rows.length≤u),Calls Tryz.prog 27 #[.pointer (some ⟨pf,0,none⟩), .slice A b.length cb] w λe w'=>e= .returned (.string ⟨#[48,48]⟩)∧∃s1 now,At w0 p ((pf,ax p nm size g ks.length c {f with read:=false})::fs) (J.aL s1) w'∧X.Tx u s s1 now∧X.iw nm (X.attr size ks) ks (X.iB ks rows (f.last)) ct now)∧(∀{w0:World} {p pf g c size ct:Nat} {nm:J.B} {ks:List X.Ky} {rows:List X.Row} {f:Fv} {w:World} {s:J.St} {fs:List (Nat×Obj)} {ok:Obj} (h:At w0 p ((pf,ax p nm size g ks.length c f)::fs) s w) (hf:∀x∈fs,x.1≠pf) (bC:(g,ok)∈fs) (hO:bJ ok ks) (hcap:ks.length≤c) (ht:J.Two s) (hX:XF nm size ks rows ct s.now) (b:J.B) (A:Option Addr) (cb:Nat) (hs:X.bM [52,57] [3] f.mode=[48,48]) (dJ:f.ord=false) (vI:(X.aF ks 0).at_+(X.aF ks 0).len≤b.length) (hbl:b.length≤1000000) (BU:(X.val ks 0 b).length≤160) (dX:Src w0 p fs (.slice A b.length cb) b) (dK:rows.find? (λr=>decide (X.val ks 0 r.b=X.val ks 0 b))=none),Calls Tryz.prog 27 #[.pointer (some ⟨pf,0,none⟩), .slice A b.length cb] w λe w'=>e= .returned (.string ⟨#[50,51]⟩)∧At w0 p ((pf,ax p nm size g ks.length c {f with read:=false})::fs) s w')∧(∀{w0:World} {p pf g c size ct:Nat} {nm:J.B} {ks:List X.Ky} {rows:List X.Row} {f:Fv} {w:World} {s:J.St} {fs:List (Nat×Obj)} {ok:Obj} (h:At w0 p ((pf,ax p nm size g ks.length c f)::fs) s w) (hf:∀x∈fs,x.1≠pf) (bC:(g,ok)∈fs) (hO:bJ ok ks) (hcap:ks.length≤c) (ht:J.Two s) (hX:XF nm size ks rows ct s.now) (b:J.B) (A:Option Addr) (cb:Nat) (hs:X.bM [52,57] [3] f.mode=[48,48]) (dJ:f.ord=true) (ov:f.read=true) (BU:f.last.length≤160) (dK:rows.find? (λr=>decide (X.val ks 0 r.b=f.last))=none),Calls Tryz.prog 27 #[.pointer (some ⟨pf,0,none⟩), .slice A b.length cb] w λe w'=>e= .returned (.string ⟨#[50,51]⟩)∧At w0 p ((pf,ax p nm size g ks.length c {f with read:=false})::fs) s w'):=by
 refine⟨?z0, ?z1, ?z2, ?z3⟩
 case' z0=>intro w0 p pf g c size ct u nm ks rows f w s fs ok h hf bC hO hcap ht hX b A cb hs dJ vI hbl BU dX o dK hZ hu hro
 case' z1=>(intro w0 p pf g c size ct u nm ks rows f w s fs ok h hf bC hO hcap ht hX b A cb hs dJ ov BU o dK hZ hu hro;have aH:=trivial)
 case' z2=>(intro w0 p pf g c size ct nm ks rows f w s fs ok h hf bC hO hcap ht hX b A cb hs dJ vI hbl BU dX dK;have aJ:=trivial)
 case' z3=>(intro w0 p pf g c size ct nm ks rows f w s fs ok h hf bC hO hcap ht hX b A cb hs dJ ov BU dK;have aT:=trivial)
 all_goals
  first
   |have aT:=aT
    have vG:=ae ov;clear ov
   |have aJ:=aJ
    have hw:wrap64 (((X.aF ks 0).at_:Int)+(X.aF ks 0).len)=(((X.aF ks 0).at_+(X.aF ks 0).len:Nat):Int):=(by rw[IntWalk.wrap64_in _ (by omega)];omega);have hw2:IntKind.i64.wrap (((X.aF ks 0).at_:Int)+(X.aF ks 0).len)=(((X.aF ks 0).at_+(X.aF ks 0).len:Nat):Int):=(by rw[IntKind.wrap_i64];omega);have PB:¬(b.length:Int)<(((X.aF ks 0).at_+(X.aF ks 0).len:Nat):Int):=by omega
    skip
   |have aH:=aH
    have vG:=ae ov;clear ov
   |have hw:wrap64 (((X.aF ks 0).at_:Int)+(X.aF ks 0).len)=(((X.aF ks 0).at_+(X.aF ks 0).len:Nat):Int):=by rw[IntWalk.wrap64_in _ (by omega)];omega
    have hw2:IntKind.i64.wrap (((X.aF ks 0).at_:Int)+(X.aF ks 0).len)=(((X.aF ks 0).at_+(X.aF ks 0).len:Nat):Int):=(by rw[IntKind.wrap_i64];omega);have PB:¬(b.length:Int)<(((X.aF ks 0).at_+(X.aF ks 0).len:Nat):Int):=by omega
  obtain⟨hB,hf2⟩:=h.rX hf (aO pf);have bg:=hX.ks.one;have acV:=hX.nm;first
   |have aT:=aT
    have iq:=ae (λW=>dw nm size (some ⟨g,0,none⟩) ks.length c 0 0 f.last (by decide) (by decide) (by omega) (by omega) W);have hlk:=hX.con.lR hX.rows f.last
    skip
   |have aJ:=aJ
    have iq:=ae (λW=>dw nm size (some ⟨g,0,none⟩) ks.length c 0 0 (X.val ks 0 b) (by decide) (by decide) (by omega) (by omega) W);have hlk:=hX.con.lR hX.rows (X.val ks 0 b)
    skip
   |have aH:=aH
    have iq:=ae (λW=>dw nm size (some ⟨g,0,none⟩) ks.length c 0 0 f.last (by decide) (by decide) (by omega) (by omega) W);have hlk:=hX.con.lR hX.rows f.last
    skip
   |have iq:=ae (λW=>dw nm size (some ⟨g,0,none⟩) ks.length c 0 0 (X.val ks 0 b) (by decide) (by decide) (by omega) (by omega) W)
    have hlk:=hX.con.lR hX.rows (X.val ks 0 b)
  rw[dK]at hlk;first
   |have aT:=aT
    have gT:=ae (λgs W (hh:At w0 p gs s W)=>fk hh (X.bS nm 0 f.last 0) (by have h3:=X.cR nm 0 f.last 0;omega) (λl hl=>by have:=hX.len _ _ hl;omega))
    skip
   |have aJ:=aJ
    have gT:=ae (λgs W (hh:At w0 p gs s W)=>fk hh (X.bS nm 0 (X.val ks 0 b) 0) (by have h3:=X.cR nm 0 (X.val ks 0 b) 0;omega) (λl hl=>by have:=hX.len _ _ hl;omega))
    skip
   |have aH:=aH
    have gT:=ae (λgs W (hh:At w0 p gs s W)=>fk hh (X.bS nm 0 f.last 0) (by have h3:=X.cR nm 0 f.last 0;omega) (λl hl=>by have:=hX.len _ _ hl;omega))
    skip
   |have gT:=ae (λgs W (hh:At w0 p gs s W)=>fk hh (X.bS nm 0 (X.val ks 0 b) 0) (by have h3:=X.cR nm 0 (X.val ks 0 b) 0;omega) (λl hl=>by have:=hX.len _ _ hl;omega))
  rw[hlk]at gT;have FJ:=ae ht;first
   |have aT:=aT
    generalize yG:(⟨(f.last).toArray⟩:ByteArray)=pv at iq
   |have aJ:=aJ
    generalize yG:(⟨((X.val ks 0 b)).toArray⟩:ByteArray)=pv at iq
   |have YX:=(X.bD dK).1
    have yH:=hX.rows.fit o YX;have Wl:o.b≠[]:=λe=>by
     have h0:=hX.ks.one;have h1:=(X.aR.1 yH).2 _ (X.aU h0.1);have h2:=(hX.lens h0.1).1;have h3:X.lens ks 0=(X.aF ks 0).len:=rfl;rw[e,List.length_nil]at h1;omega
    have sS:=ae Wl;have XT:=ae hf;have lj:=ae bC;have HU:=ae (λgs W Bp Bo pv' A cb (hh:At w0 p gs s W) yG (q1:(pf,ax p nm size g ks.length c {f with read:=false})∈gs) (q2:(w.heap.size,aO pf)∈gs) q3 q4 (q5:(g,ok)∈gs) Cx=>QO (f:={f with read:=false}) (Bf:=w.heap.size) (Bp:=Bp) (Bo:=Bo) (pv:=pv') hh A cb yG q1 q2 q3 q4 q5 hO hcap hZ hu hX Cx dK hro);clear YX yH Wl;first
     |have aH:=aH
      generalize yG:(⟨(f.last).toArray⟩:ByteArray)=pv at iq
     |generalize yG:(⟨((X.val ks 0 b)).toArray⟩:ByteArray)=pv at iq
  have fB:=ae yG;first
   |have aT:=aT
    generalize(⟨(X.bS nm 0 (f.last) 0).toArray⟩:ByteArray)=pe at iq gT
   |have aJ:=aJ
    generalize(⟨(X.bS nm 0 ((X.val ks 0 b)) 0).toArray⟩:ByteArray)=pe at iq gT
   |have aH:=aH
    generalize(⟨(X.bS nm 0 (f.last) 0).toArray⟩:ByteArray)=pe at iq gT
   |generalize(⟨(X.bS nm 0 ((X.val ks 0 b)) 0).toArray⟩:ByteArray)=pe at iq gT
  clear hlk yG acV;first
   |have aT:=aT
    skip
   |have aJ:=aJ
    have HV:=ae (λgs t (hs:∀x∈fs,x∈gs) w1 (hh:At w0 p gs t w1)=>cw (X.aF ks 0) (.slice A b.length cb) b bF w1 (dX _ _ _ hs hh) vI hbl);rw[show(X.aF ks 0).val b=X.val ks 0 b from rfl,fB.out]at HV;have Ho:=ae vI;clear dX vI hbl BU
   |have aH:=aH
    skip
   |have HV:=ae (λgs t (hs:∀x∈fs,x∈gs) w1 (hh:At w0 p gs t w1)=>cw (X.aF ks 0) (.slice A b.length cb) b bF w1 (dX _ _ _ hs hh) vI hbl)
    rw[show(X.aF ks 0).val b=X.val ks 0 b from rfl,fB.out]at HV;have Ho:=ae vI;clear dX vI hbl BU
  have dD:=ae (bG (hB.get af) [52,57] [3] 1 #[.int .u8 3] rfl rfl (by decide) (w.heap.size+1) (by simp));rw[hs]at dD;have HA:=ae (hB.below ((ak _ _).alloc (aq _) (.cells #[.int .u8 3] 32)));have gp:=ae (λW (hh:At w0 p ((pf,ax p nm size g ks.length c {f with read:=false})::(w.heap.size,aO pf)::fs) s W)=>hO.2 W g (hh.get (ag _ (ag _ bC))));have Yx:=ae (λW (hh:At w0 p ((pf,ax p nm size g ks.length c f)::(w.heap.size,aO pf)::fs) s W) (h1:W.heap[pf]? =some (ax p nm size g ks.length c f))=>cz (f':={f with read:=false}) hh hf2 ht (aA (World.grownBy.refl W (some pf)) 11 (.bool false)) (aB h1 11 (.bool false)));have dL:=ae bg;first
   |have aT:=aT
    clear h hs hf bC hO ht hX hB hf2 bg dK hcap BU
   |have aJ:=aJ
    clear h hs hf bC hO ht hX hB hf2 bg dK hcap
   |have aH:=aH
    clear h hs hf bC hO ht hX hB hf2 bg dK hcap BU hZ hu hro
   |clear h hs hf bC hO ht hX hB hf2 bg dK hcap hZ hu hro
  go_enter Tryz.func27,Tryz.ntmps27;go_wp2_with fail;refine dD.out.mono ?_;rintro e W1 ⟨rfl,hW1⟩;subst hW1;clear dD;refine aM (λX=>At w0 p ((pf,ax p nm size g ks.length c f)::(w.heap.size,aO pf)::fs) s X) HA.out ?_;intro W ha;clear HA;have h1:W.heap[pf]? =some (ax p nm size g ks.length c f):=ha.get af;have hz:=aC h1;have hc:=aj W pf h1;have dM:=aj W w.heap.size (ha.get (ag _ af));first
   |have aT:=aT
    rw[vG.out]at hc
   |have aJ:=aJ
    skip
   |have aH:=aH
    rw[vG.out]at hc
   |skip
  have HG:=ae (Yx.out _ ha h1);clear ha h1 Yx;go_upto_region 6 with fail;refine aM (λY=>At w0 p ((pf,ax p nm size g ks.length c {f with read:=false})::(w.heap.size,aO pf)::fs) s Y) HG.out ?_;intro W2 ha2;have fE:=ae ha2;have hc:=aj W2 pf (ha2.get af);have dM:=aj W2 w.heap.size (ha2.get (ag _ af));have ej:0<ks.length:=(by have:=dL.out;omega);have bY:=gp.out _ ha2;have k1:=bY.at_ ej;have k2:=bY.len ej;have k3:=bY.dup ej;rw[Nat.zero_mul]at k1 k2 k3;rw[Nat.zero_add]at k2 k3;have Iu:(0:Int)<(ks.length:Nat):=(by omega);have HZ:=ae (heap_alloc_new W2 dN);clear ha2 HG bY gp hz;go_wp2_with (refine wpList_store_row rfl _ _ 66 rfl W2.heap.size rfl _ rfl _ _ HZ.out rfl (by kernel_rfl) rfl ?_);intro W3 hrow hg hsz;obtain⟨rI,hb3⟩:=fE.out.stored dN hg;have hrow:W3.heap[W2.heap.size]? =some (aP (X.aF ks 0)):=hrow;have cU:=ae rI;have hc:=aj W3 pf (rI.get af);have dM:=aj W3 w.heap.size (rI.get (ag _ af));have ea:=aj W3 W2.heap.size hrow;first
   |have aT:=aT
    skip
   |have aJ:=aJ
    have EF:=ae hrow
    skip
   |have aH:=aH
    skip
   |have EF:=ae hrow
  clear rI hb3 hrow hg hsz HZ k1 k2 k3 fE;rw[dJ]at hc;first
   |have aT:=aT
    rw[fB.out]at hc
   |have aJ:=aJ
    generalize Ib:(⟨f.last.toArray⟩:ByteArray)=lb at hc;have Yt:=ae Ib;clear Ib
   |have aH:=aH
    rw[fB.out]at hc
   |generalize Ib:(⟨f.last.toArray⟩:ByteArray)=lb at hc
    have Yt:=ae Ib;clear Ib
  go_upto_region 12 with fail;first
   |have aT:=aT
    have cZ:=ae (cU.out.more (aS pv));refine aM (λY=>At w0 p ((W3.heap.size,aS pv)::(pf,ax p nm size g ks.length c {f with read:=false})::(w.heap.size,aO pf)::fs) s Y) cZ.out ?_;intro W4 ha
   |have aJ:=aJ
    have cZ:=ae (cU.out.more (aS lb));have SR:=ae ((((ak _ W3).alloc (aq _) (aS lb)).block _ (ai EF.out).1).trans EF.out);have HN8:=ae (λy (hy:y∈((pf,ax p nm size g ks.length c {f with read:=false})::(w.heap.size,aO pf)::fs))=>(by have:=cU.out.lt hy;omega:y.1≠W3.heap.size));refine aM (λY=>At w0 p ((W3.heap.size,aS lb)::((pf,ax p nm size g ks.length c {f with read:=false})::(w.heap.size,aO pf)::fs)) s Y∧Y.heap[W2.heap.size]? =some (aP (X.aF ks 0))) ⟨cZ.out,SR.out⟩ ?_;rintro W4 ⟨ha,hr⟩
   |have aH:=aH
    have cZ:=ae (cU.out.more (aS pv));refine aM (λY=>At w0 p ((W3.heap.size,aS pv)::(pf,ax p nm size g ks.length c {f with read:=false})::(w.heap.size,aO pf)::fs) s Y) cZ.out ?_;intro W4 ha
   |have cZ:=ae (cU.out.more (aS lb))
    have SR:=ae ((((ak _ W3).alloc (aq _) (aS lb)).block _ (ai EF.out).1).trans EF.out);have HN8:=ae (λy (hy:y∈((pf,ax p nm size g ks.length c {f with read:=false})::(w.heap.size,aO pf)::fs))=>(by have:=cU.out.lt hy;omega:y.1≠W3.heap.size));refine aM (λY=>At w0 p ((W3.heap.size,aS lb)::((pf,ax p nm size g ks.length c {f with read:=false})::(w.heap.size,aO pf)::fs)) s Y∧Y.heap[W2.heap.size]? =some (aP (X.aF ks 0))) ⟨cZ.out,SR.out⟩ ?_;rintro W4 ⟨ha,hr⟩
  have cZ:=ae ha;first
   |have aT:=aT
    have hc:=aj W4 pf (ha.get (ag _ af:(pf,ax p nm size g ks.length c {f with read:=false})∈((W3.heap.size,aS pv)::(pf,ax p nm size g ks.length c {f with read:=false})::(w.heap.size,aO pf)::fs)));have dM:=aj W4 w.heap.size (ha.get (ag _ (ag _ af):(w.heap.size,aO pf)∈((W3.heap.size,aS pv)::(pf,ax p nm size g ks.length c {f with read:=false})::(w.heap.size,aO pf)::fs)))
    skip
   |have aJ:=aJ
    have hc:=aj W4 pf (ha.get (ag _ af:(pf,ax p nm size g ks.length c {f with read:=false})∈_));have dM:=aj W4 w.heap.size (ha.get (ag _ (ag _ af):(w.heap.size,aO pf)∈_));have ea:=aj W4 W2.heap.size hr
    skip
   |have aH:=aH
    have hc:=aj W4 pf (ha.get (ag _ af:(pf,ax p nm size g ks.length c {f with read:=false})∈((W3.heap.size,aS pv)::(pf,ax p nm size g ks.length c {f with read:=false})::(w.heap.size,aO pf)::fs)));have dM:=aj W4 w.heap.size (ha.get (ag _ (ag _ af):(w.heap.size,aO pf)∈((W3.heap.size,aS pv)::(pf,ax p nm size g ks.length c {f with read:=false})::(w.heap.size,aO pf)::fs)))
    skip
   |have hc:=aj W4 pf (ha.get (ag _ af:(pf,ax p nm size g ks.length c {f with read:=false})∈_))
    have dM:=aj W4 w.heap.size (ha.get (ag _ (ag _ af):(w.heap.size,aO pf)∈_));have ea:=aj W4 W2.heap.size hr
  rw[dJ]at hc;first
   |have aT:=aT
    clear ha ea dJ
   |have aJ:=aJ
    clear ha hr SR EF cU dJ;go_wp2_with fail;refine(HV.out _ _ (λy hy=>by simp[hy]) _ cZ.out).mono ?_;rintro e W5 ⟨rfl,hb⟩;have eI:=ae (cZ.out.below hb);have JN:=aj W5 W3.heap.size (eI.out.get af);have ZX:=aC (eI.out.get af);clear hb cZ hc dM ea HV
   |have aH:=aH
    clear ha ea dJ
   |clear ha hr SR EF cU dJ
    go_wp2_with fail;refine(HV.out _ _ (λy hy=>by simp[hy]) _ cZ.out).mono ?_;rintro e W5 ⟨rfl,hb⟩;have eI:=ae (cZ.out.below hb);have JN:=aj W5 W3.heap.size (eI.out.get af);have ZX:=aC (eI.out.get af);clear hb cZ hc dM ea HV
  go_upto_region 14 with fail;first
   |have aT:=aT
    refine aM (λY=>At w0 p ((W3.heap.size,aS pv)::(pf,ax p nm size g ks.length c {f with read:=false})::(w.heap.size,aO pf)::fs) s Y) cZ.out ?_
   |have aJ:=aJ
    have dC:=ae (eI.out.yL HN8.out FJ.out pv);refine aM (λY=>At w0 p ((W3.heap.size,aS pv)::(pf,ax p nm size g ks.length c {f with read:=false})::(w.heap.size,aO pf)::fs) s Y) dC.out ?_
   |have aH:=aH
    refine aM (λY=>At w0 p ((W3.heap.size,aS pv)::(pf,ax p nm size g ks.length c {f with read:=false})::(w.heap.size,aO pf)::fs) s Y) cZ.out ?_
   |have dC:=ae (eI.out.yL HN8.out FJ.out pv)
    refine aM (λY=>At w0 p ((W3.heap.size,aS pv)::(pf,ax p nm size g ks.length c {f with read:=false})::(w.heap.size,aO pf)::fs) s Y) dC.out ?_
  intro W ha;have QP:=ae ha;first
   |have aT:=aT
    clear ha cZ cU hc dM
   |have aJ:=aJ
    clear ha eI dC JN ZX
   |have aH:=aH
    clear ha cZ cU hc dM
   |clear ha eI dC JN ZX
  refine aD 16 (.rd 0 (.rd 1 (.rd 2 (.rd 3 (.rd 4 (.rd 5 (.rd 6 (.rd 7 (.rd 8 (.two 9 (.two 10 (.rd 11 (.rd 12 (.rd 13 (.wr 14 (.wr 15 .fin))))) 14 (.wr 10 (.rd 11 (.rd 12 (.rd 13 (.wr 15 .fin)))))) 14 (.wr 9 (.wr 10 (.rd 11 (.rd 12 (.rd 13 (.wr 15 .fin)))))))))))))))) (λw'=>At w0 p ((W3.heap.size,aS pv)::(pf,ax p nm size g ks.length c {f with read:=false})::(w.heap.size,aO pf)::fs) s w') (by kernel_rfl) (by kernel_rfl) (λc a d v w h=>by cases d<;>exact h) (QP.out.below ((ak _ _).drew)) ?_;repeat
   refine az (v:= ?_) (by rfl) (by rfl) (λw' hS=> ?_) (λK hK=> ?_);rotate_left
   ·have hc:=aj w' pf (hS.get (ag _ af:(pf,ax p nm size g ks.length c {f with read:=false})∈((W3.heap.size,aS pv)::(pf,ax p nm size g ks.length c {f with read:=false})::(w.heap.size,aO pf)::fs)));have dM:=aj w' w.heap.size (hS.get (ag _ (ag _ af):(w.heap.size,aO pf)∈((W3.heap.size,aS pv)::(pf,ax p nm size g ks.length c {f with read:=false})::(w.heap.size,aO pf)::fs)));have JN:=aj w' W3.heap.size (hS.get (af:(W3.heap.size,aS pv)∈((W3.heap.size,aS pv)::(pf,ax p nm size g ks.length c {f with read:=false})::(w.heap.size,aO pf)::fs)));clear hS;go_simp;try with_reducible rfl
   go_simp;refine hK _ ?_;clear hK K
  refine cO (by rfl) (by rfl) (λK hK=> ?_) (λK hK=> ?_)
  ·go_simp;refine(iq.out _).mono ?_;rintro e W6 ⟨rfl,hb⟩;have dC:=ae (QP.out.below (((ak _ W).drew).trans hb));refine hK.out _ _ (λw'=>At w0 p ((W3.heap.size,aS pv)::(pf,ax p nm size g ks.length c {f with read:=false})::(w.heap.size,aO pf)::fs) s w') (λ_ h=>h) dC.out ?_;clear hK K hb iq;refine cO (by rfl) (by rfl) (λK hK=> ?_) (λK hK=> ?_)
   ·go_simp;refine(gT.out _ _ dC.out).mono ?_;rintro e W7 ⟨v,rfl,jM,oI,rf⟩;first
     |have aT:=aT
      obtain⟨A7,c7,hv,_,_⟩:=(jM.sl).by
      skip
     |have aJ:=aJ
      obtain⟨A7,c7,hv,_,_⟩:=(jM.sl).by
      skip
     |have jM:bT W7 (· <W6.heap.size) v o.b:=jM
      obtain⟨x,h8,QC,vg,bo,oo,hv⟩:=dC.out.old rf jM sS.out
    subst hv;first
     |have aT:=aT
      skip
     |have aJ:=aJ
      skip
     |have ig:=ae h8
      have FR:=ae vg
    have cQ:=ae oI;first
     |have aT:=aT
      clear oI jM rf dC gT
     |have aJ:=aJ
      clear oI jM rf dC gT
     |clear oI jM rf h8 QC vg dC gT
    refine hK.out _ _ (λw'=>At w0 p ((W3.heap.size,aS pv)::(pf,ax p nm size g ks.length c {f with read:=false})::(w.heap.size,aO pf)::fs) s w') (λ_ h=>h) cQ.out ?_;clear hK K;repeat
     refine az (v:= ?_) (by rfl) (by rfl) (λw' hS=> ?_) (λK hK=> ?_);rotate_left
     ·have hc:=aj w' pf (hS.get (ag _ af:(pf,ax p nm size g ks.length c {f with read:=false})∈((W3.heap.size,aS pv)::(pf,ax p nm size g ks.length c {f with read:=false})::(w.heap.size,aO pf)::fs)));have dM:=aj w' w.heap.size (hS.get (ag _ (ag _ af):(w.heap.size,aO pf)∈((W3.heap.size,aS pv)::(pf,ax p nm size g ks.length c {f with read:=false})::(w.heap.size,aO pf)::fs)));have JN:=aj w' W3.heap.size (hS.get (af:(W3.heap.size,aS pv)∈((W3.heap.size,aS pv)::(pf,ax p nm size g ks.length c {f with read:=false})::(w.heap.size,aO pf)::fs)));clear hS;go_simp;try with_reducible rfl
     go_simp;refine hK _ ?_;clear hK K
    refine wpPm_write (by rfl) (λK hK=> ?_);go_simp;refine hK.out _ _ (λw'=>At w0 p ((W3.heap.size,aS pv)::(pf,ax p nm size g ks.length c {f with read:=false})::(w.heap.size,aO pf)::fs) s w') (λ_ h=>h) (cQ.out.below ((ak _ W7).alloc (aq _) _)) ?_;clear hK K;refine wpPm_write (by rfl) (λK hK=> ?_);go_simp;refine hK.out _ _ (λw'=>At w0 p ((W3.heap.size,aS pv)::(pf,ax p nm size g ks.length c {f with read:=false})::(w.heap.size,aO pf)::fs) s w') (λ_ h=>h) (cQ.out.below ((ak _ W7).alloc (aq _) _)) ?_;clear hK K;first
     |have aT:=aT
      have iD:=ae (cQ.out.below ((ak _ W7).alloc (aq _) (bP (.slice A7 (([]:J.B).length:Nat) c7))))
      skip
     |have aJ:=aJ
      have iD:=ae (cQ.out.below ((ak _ W7).alloc (aq _) (bP (.slice A7 (([]:J.B).length:Nat) c7))))
      skip
     |have iD:=ae (ig.out.more (bP (.slice (some ⟨bo,oo,none⟩) o.b.length o.b.length)))
    show wpList _ _ _ _ _ _;first
     |have aT:=aT
      refine aM (λY=>At w0 p ((W3.heap.size,aS pv)::(pf,ax p nm size g ks.length c {f with read:=false})::(w.heap.size,aO pf)::fs) s Y) iD.out ?_
     |have aJ:=aJ
      refine aM (λY=>At w0 p ((W3.heap.size,aS pv)::(pf,ax p nm size g ks.length c {f with read:=false})::(w.heap.size,aO pf)::fs) s Y) iD.out ?_
     |refine aM (λY=>At w0 p ((W7.heap.size,bP (.slice (some ⟨bo,oo,none⟩) o.b.length o.b.length))::(W3.heap.size,aS pv)::x::((pf,ax p nm size g ks.length c {f with read:=false})::(w.heap.size,aO pf)::fs)) s Y) iD.out ?_
    intro W9 rM;have iD:=ae rM;first
     |have aT:=aT
      clear rM cQ
     |have aJ:=aJ
      clear rM cQ
     |have dM:=aj W9 w.heap.size (rM.get (by simp:(w.heap.size,aO pf)∈_))
      have JJ:=ae (HU.out _ W9 W3.heap.size W7.heap.size pv _ _ iD.out fB.out (by simp) (by simp) (by simp) (by simp) (by simp[lj.out]) ((FR.out.2).more (λy hy=>by rcases au hy with rfl|hy<;>simp_all)));clear rM ig cQ HU FR;go_wp2_with fail;refine JJ.out.mono ?_;rintro e ZY ⟨rfl,s1,now,h8,pM,hcon⟩;have yS:=ae (h8.less (gs:=(pf,ax p nm size g ks.length c {f with read:=false})::fs) (λy hy=>by rcases au hy with rfl|hy<;>simp_all));have wh:=ae pM;have Bj:=ae hcon;clear h8 pM hcon JJ iD
    go_wp2;go_ret;first
     |have aT:=aT
      exact⟨rfl,iD.out.less (λy hy=>by rcases au hy with rfl|hy<;>simp_all)⟩
      skip
     |have aJ:=aJ
      exact⟨rfl,iD.out.less (λy hy=>by rcases au hy with rfl|hy<;>simp_all)⟩
      skip
     |exact⟨rfl,_,_,yS.out,wh.out,Bj.out⟩
   ·go_simp;have ow:=ae (dC.out.more (bP (.slice none 0 0)));have rE:=ae (λy (hy:y∈((W3.heap.size,aS pv)::(pf,ax p nm size g ks.length c {f with read:=false})::(w.heap.size,aO pf)::fs))=>(by have:=dC.out.lt hy;omega:y.1≠W6.heap.size));refine hK.out _ _ (λw'=>At w0 p ((W3.heap.size,aS pv)::(pf,ax p nm size g ks.length c {f with read:=false})::(w.heap.size,aO pf)::fs) s w') (λ_ h=>h) (ow.out.less (λy hy=>ag _ hy)) ?_;clear hK K;refine wpPm_write (by rfl) (λK hK=> ?_);generalize hB9:W6.heap.size=B9 at ow rE⊢;go_simp;refine(gT.out _ _ ow.out).mono ?_;rintro e W7 ⟨v,rfl,jM,oI,rf⟩;first
     |have aT:=aT
      obtain⟨A7,c7,hv,_,_⟩:=(jM.sl).by
      skip
     |have aJ:=aJ
      obtain⟨A7,c7,hv,_,_⟩:=(jM.sl).by
      skip
     |have jM:bT W7 (· <_) v o.b:=jM
      obtain⟨x,h8,QC,vg,bo,oo,hv⟩:=ow.out.old rf jM sS.out
    subst hv;first
     |have aT:=aT
      skip
     |have aJ:=aJ
      skip
     |have ig:=ae h8
      have FR:=ae vg;have uQ:=ae (λy (hy:y∈x::((W3.heap.size,aS pv)::(pf,ax p nm size g ks.length c {f with read:=false})::(w.heap.size,aO pf)::fs))=>(by
       rcases au hy with rfl|hy
       ·have:=ow.out.lt af;omega
       ·exact rE.out y hy:y.1≠B9))
    have cQ:=ae oI;first
     |have aT:=aT
      clear oI jM rf ow gT
     |have aJ:=aJ
      clear oI jM rf ow gT
     |clear oI jM rf h8 QC vg ow gT
    refine hK.out _ _ (λw'=>At w0 p ((W3.heap.size,aS pv)::(pf,ax p nm size g ks.length c {f with read:=false})::(w.heap.size,aO pf)::fs) s w') (λ_ h=>h) (cQ.out.less (λy hy=>ag _ hy)) ?_;clear hK K;repeat
     refine az (v:= ?_) (by rfl) (by rfl) (λw' hS=> ?_) (λK hK=> ?_);rotate_left
     ·have hc:=aj w' pf (hS.get (ag _ af:(pf,ax p nm size g ks.length c {f with read:=false})∈((W3.heap.size,aS pv)::(pf,ax p nm size g ks.length c {f with read:=false})::(w.heap.size,aO pf)::fs)));have dM:=aj w' w.heap.size (hS.get (ag _ (ag _ af):(w.heap.size,aO pf)∈((W3.heap.size,aS pv)::(pf,ax p nm size g ks.length c {f with read:=false})::(w.heap.size,aO pf)::fs)));have JN:=aj w' W3.heap.size (hS.get (af:(W3.heap.size,aS pv)∈((W3.heap.size,aS pv)::(pf,ax p nm size g ks.length c {f with read:=false})::(w.heap.size,aO pf)::fs)));clear hS;go_simp;try with_reducible rfl
     go_simp;refine hK _ ?_;clear hK K
    have jR:=aj W7 B9 (cQ.out.get (af:(B9,bP (.slice none 0 0))∈(B9,bP (.slice none 0 0))::((W3.heap.size,aS pv)::(pf,ax p nm size g ks.length c {f with read:=false})::(w.heap.size,aO pf)::fs)));have JI:=aC (cQ.out.get (af:(B9,bP (.slice none 0 0))∈(B9,bP (.slice none 0 0))::((W3.heap.size,aS pv)::(pf,ax p nm size g ks.length c {f with read:=false})::(w.heap.size,aO pf)::fs)));first
     |have aT:=aT
      have oy:=ae (cQ.out.gC ⟨_,_,_,rfl⟩ rE.out FJ.out (.slice A7 (([]:J.B).length:Nat) c7))
      skip
     |have aJ:=aJ
      have oy:=ae (cQ.out.gC ⟨_,_,_,rfl⟩ rE.out FJ.out (.slice A7 (([]:J.B).length:Nat) c7))
      skip
     |have oy:=ae (cQ.out.gC ⟨_,_,_,rfl⟩ rE.out FJ.out (.slice (some ⟨bo,oo,none⟩) o.b.length o.b.length))
    refine wpPm_write (by rfl) (λK hK=> ?_);go_simp;refine hK.out _ _ (λw'=>At w0 p ((W3.heap.size,aS pv)::(pf,ax p nm size g ks.length c {f with read:=false})::(w.heap.size,aO pf)::fs) s w') (λ_ h=>h) (oy.out.less (λy hy=>ag _ hy)) ?_;clear hK K jR JI;first
     |have aT:=aT
      skip
     |have aJ:=aJ
      skip
     |have iD:=ae (ig.out.gC ⟨_,_,_,rfl⟩ uQ.out FJ.out (.slice (some ⟨bo,oo,none⟩) o.b.length o.b.length))
    show wpList _ _ _ _ _ _;first
     |have aT:=aT
      refine aM (λY=>At w0 p ((W3.heap.size,aS pv)::(pf,ax p nm size g ks.length c {f with read:=false})::(w.heap.size,aO pf)::fs) s Y) (oy.out.less (λy hy=>ag _ hy)) ?_
     |have aJ:=aJ
      refine aM (λY=>At w0 p ((W3.heap.size,aS pv)::(pf,ax p nm size g ks.length c {f with read:=false})::(w.heap.size,aO pf)::fs) s Y) (oy.out.less (λy hy=>ag _ hy)) ?_
     |refine aM (λY=>At w0 p ((B9,bP (.slice (some ⟨bo,oo,none⟩) o.b.length o.b.length))::x::((W3.heap.size,aS pv)::(pf,ax p nm size g ks.length c {f with read:=false})::(w.heap.size,aO pf)::fs)) s Y) iD.out ?_
    intro W9 rM;have iD:=ae rM;first
     |have aT:=aT
      clear rM cQ oy
     |have aJ:=aJ
      clear rM cQ oy
     |have dM:=aj W9 w.heap.size (rM.get (by simp:(w.heap.size,aO pf)∈_))
      have JJ:=ae (HU.out _ W9 W3.heap.size B9 pv _ _ iD.out fB.out (by simp) (by simp) (by simp) (by simp) (by simp[lj.out]) ((FR.out.2).more (λy hy=>ag _ hy)));clear rM ig cQ oy HU FR uQ;go_wp2_with fail;refine JJ.out.mono ?_;rintro e ZY ⟨rfl,s1,now,h8,pM,hcon⟩;have yS:=ae (h8.less (gs:=(pf,ax p nm size g ks.length c {f with read:=false})::fs) (λy hy=>by rcases au hy with rfl|hy<;>simp_all));have wh:=ae pM;have Bj:=ae hcon;clear h8 pM hcon JJ iD
    go_wp2;go_ret;first
     |have aT:=aT
      exact⟨rfl,iD.out.less (λy hy=>by rcases au hy with rfl|hy<;>simp_all)⟩
      skip
     |have aJ:=aJ
      exact⟨rfl,iD.out.less (λy hy=>by rcases au hy with rfl|hy<;>simp_all)⟩
      skip
     |exact⟨rfl,_,_,yS.out,wh.out,Bj.out⟩
  ·go_simp;have QQ:=ae ((QP.out.below ((ak _ W).drew)).more (bP (.slice none 0 0)));have rE:=ae (λy (hy:y∈((W3.heap.size,aS pv)::(pf,ax p nm size g ks.length c {f with read:=false})::(w.heap.size,aO pf)::fs))=>(by have:=QP.out.lt hy;omega:y.1≠W.heap.size));have Uo:W.drew.heap.size=W.heap.size:=(by simp);rw[Uo]at QQ;refine hK.out _ _ (λw'=>At w0 p ((W3.heap.size,aS pv)::(pf,ax p nm size g ks.length c {f with read:=false})::(w.heap.size,aO pf)::fs) s w') (λ_ h=>h) (QQ.out.less (λy hy=>ag _ hy)) ?_;clear hK K;refine wpPm_write (by rfl) (λK hK=> ?_);go_simp;refine(iq.out _).mono ?_;rintro e W6 ⟨rfl,hb⟩;have ow:=ae (QQ.out.below hb);refine hK.out _ _ (λw'=>At w0 p ((W3.heap.size,aS pv)::(pf,ax p nm size g ks.length c {f with read:=false})::(w.heap.size,aO pf)::fs) s w') (λ_ h=>h) (ow.out.less (λy hy=>ag _ hy)) ?_;clear hK K hb iq QQ;refine wpPm_write (by rfl) (λK hK=> ?_);generalize hB9:W.heap.size=B9 at ow rE⊢;go_simp;refine(gT.out _ _ ow.out).mono ?_;rintro e W7 ⟨v,rfl,jM,oI,rf⟩;first
    |have aT:=aT
     obtain⟨A7,c7,hv,_,_⟩:=(jM.sl).by
     skip
    |have aJ:=aJ
     obtain⟨A7,c7,hv,_,_⟩:=(jM.sl).by
     skip
    |have jM:bT W7 (· <_) v o.b:=jM
     obtain⟨x,h8,QC,vg,bo,oo,hv⟩:=ow.out.old rf jM sS.out
   subst hv;first
    |have aT:=aT
     skip
    |have aJ:=aJ
     skip
    |have ig:=ae h8
     have FR:=ae vg;have uQ:=ae (λy (hy:y∈x::((W3.heap.size,aS pv)::(pf,ax p nm size g ks.length c {f with read:=false})::(w.heap.size,aO pf)::fs))=>(by
      rcases au hy with rfl|hy
      ·have:=ow.out.lt af;omega
      ·exact rE.out y hy:y.1≠B9))
   have cQ:=ae oI;first
    |have aT:=aT
     clear oI jM rf ow gT
    |have aJ:=aJ
     clear oI jM rf ow gT
    |clear oI jM rf h8 QC vg ow gT
   refine hK.out _ _ (λw'=>At w0 p ((W3.heap.size,aS pv)::(pf,ax p nm size g ks.length c {f with read:=false})::(w.heap.size,aO pf)::fs) s w') (λ_ h=>h) (cQ.out.less (λy hy=>ag _ hy)) ?_;clear hK K;repeat
    refine az (v:= ?_) (by rfl) (by rfl) (λw' hS=> ?_) (λK hK=> ?_);rotate_left
    ·have hc:=aj w' pf (hS.get (ag _ af:(pf,ax p nm size g ks.length c {f with read:=false})∈((W3.heap.size,aS pv)::(pf,ax p nm size g ks.length c {f with read:=false})::(w.heap.size,aO pf)::fs)));have dM:=aj w' w.heap.size (hS.get (ag _ (ag _ af):(w.heap.size,aO pf)∈((W3.heap.size,aS pv)::(pf,ax p nm size g ks.length c {f with read:=false})::(w.heap.size,aO pf)::fs)));have JN:=aj w' W3.heap.size (hS.get (af:(W3.heap.size,aS pv)∈((W3.heap.size,aS pv)::(pf,ax p nm size g ks.length c {f with read:=false})::(w.heap.size,aO pf)::fs)));clear hS;go_simp;try with_reducible rfl
    go_simp;refine hK _ ?_;clear hK K
   have jR:=aj W7 B9 (cQ.out.get (af:(B9,bP (.slice none 0 0))∈(B9,bP (.slice none 0 0))::((W3.heap.size,aS pv)::(pf,ax p nm size g ks.length c {f with read:=false})::(w.heap.size,aO pf)::fs)));have JI:=aC (cQ.out.get (af:(B9,bP (.slice none 0 0))∈(B9,bP (.slice none 0 0))::((W3.heap.size,aS pv)::(pf,ax p nm size g ks.length c {f with read:=false})::(w.heap.size,aO pf)::fs)));first
    |have aT:=aT
     have oy:=ae (cQ.out.gC ⟨_,_,_,rfl⟩ rE.out FJ.out (.slice A7 (([]:J.B).length:Nat) c7))
     skip
    |have aJ:=aJ
     have oy:=ae (cQ.out.gC ⟨_,_,_,rfl⟩ rE.out FJ.out (.slice A7 (([]:J.B).length:Nat) c7))
     skip
    |have oy:=ae (cQ.out.gC ⟨_,_,_,rfl⟩ rE.out FJ.out (.slice (some ⟨bo,oo,none⟩) o.b.length o.b.length))
   refine wpPm_write (by rfl) (λK hK=> ?_);go_simp;refine hK.out _ _ (λw'=>At w0 p ((W3.heap.size,aS pv)::(pf,ax p nm size g ks.length c {f with read:=false})::(w.heap.size,aO pf)::fs) s w') (λ_ h=>h) (oy.out.less (λy hy=>ag _ hy)) ?_;clear hK K jR JI;first
    |have aT:=aT
     skip
    |have aJ:=aJ
     skip
    |have iD:=ae (ig.out.gC ⟨_,_,_,rfl⟩ uQ.out FJ.out (.slice (some ⟨bo,oo,none⟩) o.b.length o.b.length))
   show wpList _ _ _ _ _ _;first
    |have aT:=aT
     refine aM (λY=>At w0 p ((W3.heap.size,aS pv)::(pf,ax p nm size g ks.length c {f with read:=false})::(w.heap.size,aO pf)::fs) s Y) (oy.out.less (λy hy=>ag _ hy)) ?_
    |have aJ:=aJ
     refine aM (λY=>At w0 p ((W3.heap.size,aS pv)::(pf,ax p nm size g ks.length c {f with read:=false})::(w.heap.size,aO pf)::fs) s Y) (oy.out.less (λy hy=>ag _ hy)) ?_
    |refine aM (λY=>At w0 p ((B9,bP (.slice (some ⟨bo,oo,none⟩) o.b.length o.b.length))::x::((W3.heap.size,aS pv)::(pf,ax p nm size g ks.length c {f with read:=false})::(w.heap.size,aO pf)::fs)) s Y) iD.out ?_
   intro W9 rM;have iD:=ae rM;first
    |have aT:=aT
     clear rM cQ oy
    |have aJ:=aJ
     clear rM cQ oy
    |have dM:=aj W9 w.heap.size (rM.get (by simp:(w.heap.size,aO pf)∈_))
     have JJ:=ae (HU.out _ W9 W3.heap.size B9 pv _ _ iD.out fB.out (by simp) (by simp) (by simp) (by simp) (by simp[lj.out]) ((FR.out.2).more (λy hy=>ag _ hy)));clear rM ig cQ oy HU FR uQ;go_wp2_with fail;refine JJ.out.mono ?_;rintro e ZY ⟨rfl,s1,now,h8,pM,hcon⟩;have yS:=ae (h8.less (gs:=(pf,ax p nm size g ks.length c {f with read:=false})::fs) (λy hy=>by rcases au hy with rfl|hy<;>simp_all));have wh:=ae pM;have Bj:=ae hcon;clear h8 pM hcon JJ iD
   go_wp2;go_ret;first
    |have aT:=aT
     exact⟨rfl,iD.out.less (λy hy=>by rcases au hy with rfl|hy<;>simp_all)⟩
     skip
    |have aJ:=aJ
     exact⟨rfl,iD.out.less (λy hy=>by rcases au hy with rfl|hy<;>simp_all)⟩
     skip
    |exact⟨rfl,_,_,yS.out,wh.out,Bj.out⟩
abbrev IZ:= @Ga.1
abbrev Ja:= @Ga.2.1
abbrev BV:= @Ga.2.2.1
abbrev BW:= @Ga.2.2.2
end
end Go.Proofs.YtipljcmmokaokaaGreat
