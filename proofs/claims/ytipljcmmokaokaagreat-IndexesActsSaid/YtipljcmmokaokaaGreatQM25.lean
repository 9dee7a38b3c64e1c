import Derived.Test.YtipljcmmokaokaaGreatQM22
set_option linter.unusedVariables false
set_option linter.unusedSimpArgs false
set_option maxHeartbeats 4000000
namespace Go.Proofs.YtipljcmmokaokaaGreat
open Go.RowKit Go.Lib Go.Maps Go.WideMaps Go.Sort
set_option maxRecDepth 100000
section
variable {w0 : World} {p pf g c size ct u : Nat} {nm : J.B} {ks : List X.Ky} {rows : List X.Row} {f : Fv} {w w' : World} {s s1 s2 : J.St} {fs : List (Nat × Obj)} {ok : Obj}
variable {b : J.B} {old : Option X.Row} {now : List (J.B × J.B)}
theorem Ik {B:Nat} {v:ByteArray} (h:w.heap[B]? =some (aS v)):vQ w B:=by
 refine⟨λo u v hh=> ?_,λ⟨_,cur,fr,e⟩=> ?_⟩
 ·rw[cell_of_row w B o _ _ _ h,cell_of_row w B (o+1) _ _ _ h]at hh;obtain⟨h1,h2⟩:=hh;rcases o with _|o<;>simp at h1 h2
 ·rw[h]at e;injection e with e;injection e with e1 e2;exact absurd e2 (by decide)
theorem At.yL {B:Nat} {v:ByteArray} (h:At w0 p ((B,aS v)::fs) s w) (hf:∀x∈fs,x.1≠B) (ht:J.Two s) (v':ByteArray):At w0 p ((B,aS v')::fs) s (w.setCell ⟨B,0,none⟩ (.string v')):=
 h.turn hf ht (Ik (h.get af)) (aA (World.grownBy.refl w (some B)) 0 _) (aB (h.get af) 0 _)
theorem At.lt (h:At w0 p fs s w) {x:Nat×Obj} (hx:x∈fs):x.1<w.heap.size:=(ai (h.get hx)).1
theorem Mv {chs:List J.bZ} {FK:List X.Row} {ZQ:Nat} (hs:X.pn u s.now s) (hu:u≤340) (hk:X.eo ks size) (hT:X.Cw s chs now 11900) (hc:X.iw nm (X.attr size ks) ks FK ZQ now) (hr:X.aQ ks size ZQ FK) (vU:ZQ<1000001) (hl:FK.length≤u+1):X.Tx u s (X.opened s chs now) now:=by
 refine X.Sh hs hu chs hT.inv (λb st at_ hh=>X.sD hs _ _ hh) ⟨by rcases hT.mn with e|e;cases e;exact e,hT.len⟩ ?_;have h1:=hk.one;have h2:=hc.count hr (by omega) h1.1 (by omega);have h3:ks.length*FK.length≤8*(u+1):=Nat.mul_le_mul h1.2 hl;have h4:(if 0<ZQ then 1 else 0)≤1:=by split<;>omega
 omega
theorem rV {s1:J.St} (h:X.Tx u s s1 now):∀gs w1,At w0 p gs s1 w1→∃k:Int,Calls Tryz.prog 98 #[.pointer (some ⟨p,0,none⟩)] w1 λe w'=>e= .returned (.tuple #[.int .i64 k, .int .i64 0])∧At w0 p gs (J.aL s1) w':=
 λ_ _ h1=>⟨_,GN h1 h.opn h.sp h.cs h.cm h.ar h.fit _ _ h.com⟩
theorem Il (h:At w0 p fs (X.opened s [] s.now) w) (hF:(pf,ax p nm size g ks.length c f)∈fs) (bC:(g,ok)∈fs) (hO:bJ ok ks) (hcap:ks.length≤c) (Bf Bp Bb Bo:Nat) (A:Option Addr) (cb:Nat) (vo:Value)
  (Ad:(Bf,aO pf)∈fs) (Ae:(Bp,aS ⟨(X.val ks 0 b).toArray⟩)∈fs) (Hy:(Bb,bP (.slice A b.length cb))∈fs) (Sw:(Bo,bP vo)∈fs)
  (hX:XF nm size ks rows ct s.now) (hT:X.Cw s [] s.now 0) (dX:Src w0 p fs (.slice A b.length cb) b) (aZ:X.bj ks size b=true) (dK:rows.find? (λr=>decide (X.val ks 0 r.b=X.val ks 0 b))=old) (hold:rP w0 p fs vo old):
  Calls Tryz.prog 106 #[.pointer (some ⟨Bf,0,none⟩), .pointer (some ⟨Bp,0,none⟩), .pointer (some ⟨Bb,0,none⟩), .pointer (some ⟨Bo,0,none⟩)] w λe w'=>(∃v,e= .returned v)∧∃chs now,JC w0 p fs s nm size ks ct rows b old (ks.length - 1) chs now w':=by
 cases old with
 |none=>exact Ih h hF bC hO hcap Bf Bp Bb Bo A cb vo Ad Ae Hy Sw hX hT dX aZ dK hold
 |some o=>exact Ig h hF bC hO hcap Bf Bp Bb Bo A cb vo Ad Ae Hy Sw hX hT dX aZ dK hold
theorem Qe {gs:List (Nat×Obj)} {B:Nat} {pv:ByteArray} {W:World} (h:At w0 p ((B,aS pv)::gs) s W) (A:Option Addr) (cb:Nat) (Ao:Option Addr) (no co:Nat) (Hu:∀x∈((w.heap.size+1+1,bP (.slice Ao no co))::(w.heap.size+1,bP (.slice A b.length cb))::(w.heap.size,aO pf)::(pf,ax p nm size g ks.length c f)::fs),x∈gs) (bC:(g,ok)∈fs) (hO:bJ ok ks) (hcap:ks.length≤c) (yG:(⟨(X.val ks 0 b).toArray⟩:ByteArray)=pv)
  (hZ:X.pn u s.now s) (hu:u≤340) (hX:XF nm size ks rows ct s.now) (dX:Src w0 p fs (.slice A b.length cb) b) (aZ:X.bj ks size b=true) (dK:rows.find? (λr=>decide (X.val ks 0 r.b=X.val ks 0 b))=old) (hold:rP w0 p fs (.slice Ao no co) old)
  (zv:X.aQ ks size (ct+1) (X.fK ks ct rows b old)) (hro:rows.length≤u):
  Calls Tryz.prog 45 #[.pointer (some ⟨pf,0,none⟩), .func (.func 106) #[] #[.pointer (some ⟨w.heap.size,0,none⟩), .pointer (some ⟨B,0,none⟩), .pointer (some ⟨w.heap.size+1,0,none⟩), .pointer (some ⟨w.heap.size+1+1,0,none⟩)]] W λe w'=>e= .returned (.string ⟨#[48,48]⟩)∧
   ∃s1 now,At w0 p ((pf,ax p nm size g ks.length c f)::fs) (J.aL s1) w'∧X.Tx u s s1 now∧X.iw nm (X.attr size ks) ks (X.fK ks ct rows b old) (ct+1) now:=by
 subst yG;have ez:∀x∈((w.heap.size+1+1,bP (.slice Ao no co))::(w.heap.size+1,bP (.slice A b.length cb))::(w.heap.size,aO pf)::(pf,ax p nm size g ks.length c f)::fs),x∈(B,aS ⟨(X.val ks 0 b).toArray⟩)::gs:=λx hx=>ag _ (Hu x hx);have Bu:∀x∈fs,x∈(B,aS ⟨(X.val ks 0 b).toArray⟩)::gs:=λx hx=>ez x (ag _ (ag _ (ag _ (ag _ hx))));have XU:rP w0 p ((B,aS ⟨(X.val ks 0 b).toArray⟩)::gs) (.slice Ao no co) old:=by
  cases old with
  |none=>exact hold
  |some o=>exact⟨hold.1,hold.2.more Bu⟩
 refine(pE (f:=f) (nm:=nm) (size:=size) (g:=g) (ks:=ks) (c:=c) h (ez _ (ag _ (ag _ (ag _ af)))) hZ.opn 106 _ (enters_of Tryz.func106 (by kernel_rfl) rfl) (λs1=>∃now,X.Tx u s s1 now∧X.iw nm (X.attr size ks) ks (X.fK ks ct rows b old) (ct+1) now)
  (λw1 ha=> ?_) (λs1 w1 ha hR=> ?_)).mono ?_
 ·refine(Il (by rw[X.qE]at ha;exact ha) (f:=f) (ez _ (ag _ (ag _ (ag _ af)))) (Bu _ bC) hO hcap w.heap.size B (w.heap.size+1) (w.heap.size+1+1) A cb (.slice Ao no co) (ez _ (ag _ (ag _ af))) af (ez _ (ag _ af)) (ez _ af) hX ⟨X.mK hZ,by simp[J.encs], .inl rfl⟩ (dX.more Bu) aZ dK XU).mono ?_;rintro e w' ⟨hv,chs,now,hI⟩;have h1:=hX.ks.one;have hcon:=X.Pt (j:=ks.length - 1) (by omega) hX.rows aZ hI.mix;refine⟨hv,_,hI.at_,now,Mv hZ hu hX.ks ⟨hI.tx.inv,by have:=hI.tx.len;omega, .inr (hI.tx.mn.resolve_left (by omega))⟩ hcon zv (by have:=hX.ct;omega) ?_,hcon⟩;have:=X.AO ks ct rows b old;omega
 ·obtain⟨now,hx,_⟩:=hR;exact rV hx _ _ ha
 ·rintro e w' ⟨rfl,s1,ha,now,hx,hc⟩;exact⟨rfl,s1,now,ha.less (λx hx=>ez x (by
   rcases au hx with rfl|hx
   ·exact(ag _ (ag _ (ag _ af)))
   ·exact(ag _ (ag _ (ag _ (ag _ hx)))))),hx,hc⟩
theorem Bv (h:At w0 p ((pf,ax p nm size g ks.length c f)::fs) s w) (hf:∀x∈fs,x.1≠pf) (bC:(g,ok)∈fs) (hO:bJ ok ks) (hcap:ks.length≤c) (A:Option Addr) (cb:Nat) (Ao:Option Addr) (no co:Nat)
  (hZ:X.pn u s.now s) (hu:u≤340) (hX:XF nm size ks rows ct s.now) (dX:Src w0 p fs (.slice A b.length cb) b) (aZ:X.bj ks size b=true) (dK:rows.find? (λr=>decide (X.val ks 0 r.b=X.val ks 0 b))=old) (hold:rP w0 p fs (.slice Ao no co) old)
  (zv:X.aQ ks size (ct+1) (X.fK ks ct rows b old)) (hro:rows.length≤u):
  Calls Tryz.prog 58 #[.pointer (some ⟨pf,0,none⟩), .slice A b.length cb, .slice Ao no co] w λe w'=>e= .returned (.string ⟨#[48,48]⟩)∧
   ∃s1 now,At w0 p ((pf,ax p nm size g ks.length c f)::fs) (J.aL s1) w'∧X.Tx u s s1 now∧X.iw nm (X.attr size ks) ks (X.fK ks ct rows b old) (ct+1) now:=by
 have hA:=((h.more (aO pf)).more (bP (.slice A b.length cb))).more (bP (.slice Ao no co));rw[World.size_alloc,World.size_alloc]at hA;have HA:=ae hA;have bg:=hX.ks.one;have CM:0<ks.length:=by omega
 have vI:=(X.aR.1 aZ).2 _ (X.aU CM);have hbl:=(X.aR.1 aZ).1;have hsz:=hX.ks.size;have HV:=ae (λmQ t (hs:∀x∈fs,x∈mQ) w1 (hh:At w0 p mQ t w1)=>cw (X.aF ks 0) (.slice A b.length cb) b bF w1 (dX _ _ _ hs hh) vI (by omega));have hv0:(X.aF ks 0).val b=X.val ks 0 b:=rfl;rw[hv0]at HV;have eM:=ae (λmQ (hs:∀x∈((w.heap.size+1+1,bP (.slice Ao no co))::(w.heap.size+1,bP (.slice A b.length cb))::(w.heap.size,aO pf)::(pf,ax p nm size g ks.length c f)::fs),x∈mQ) w1 (hh:At w0 p mQ s w1)=>(⟨hh.get (hs _ (ag _ (ag _ (ag _ af)))),hh.get (hs _ (ag _ (ag _ af))),hh.get (hs _ (ag _ af)),hO.2 w1 g (hh.get (hs _ (ag _ (ag _ (ag _ (ag _ bC))))))⟩:w1.heap[pf]? =some (ax p nm size g ks.length c f)∧w1.heap[w.heap.size]? =some (aO pf)∧w1.heap[w.heap.size+1]? =some (bP (.slice A b.length cb))∧dB w1 g ks));have HU:=ae (λB pv W (hh:At w0 p ((B,aS pv)::((w.heap.size+1+1,bP (.slice Ao no co))::(w.heap.size+1,bP (.slice A b.length cb))::(w.heap.size,aO pf)::(pf,ax p nm size g ks.length c f)::fs)) s W) yG=>Qe (w:=w) hh A cb Ao no co (λ_ hx=>hx) bC hO hcap yG hZ hu hX dX aZ dK hold zv hro);have HT:=ae hZ.two;have HN:=ae (λW (hh:At w0 p ((w.heap.size+1+1,bP (.slice Ao no co))::(w.heap.size+1,bP (.slice A b.length cb))::(w.heap.size,aO pf)::(pf,ax p nm size g ks.length c f)::fs) s W)=>(λx hx e=>by have:=hh.lt hx;omega:∀x∈((w.heap.size+1+1,bP (.slice Ao no co))::(w.heap.size+1,bP (.slice A b.length cb))::(w.heap.size,aO pf)::(pf,ax p nm size g ks.length c f)::fs),x.1≠W.heap.size));generalize yG:(⟨(X.val ks 0 b).toArray⟩:ByteArray)=pv at HV;have fB:=ae yG;have xm:Hid (∀x∈fs,x∈((w.heap.size+1+1,bP (.slice Ao no co))::(w.heap.size+1,bP (.slice A b.length cb))::(w.heap.size,aO pf)::(pf,ax p nm size g ks.length c f)::fs)):=ae (λx hx=>(ag _ (ag _ (ag _ (ag _ hx)))));clear h hf bC hO hcap hZ hu hX dX aZ dK hold zv hro hA bg vI hbl hsz hv0 yG;go_enter Tryz.func58,Tryz.ntmps58;go_upto_region 1 with fail;refine aD 10 (.rd 0 (.rd 1 (.rd 2 (.rd 3 (.rd 4 (.rd 5 (.rd 6 (.rd 7 (.two 8 (.wr 9 .fin) 9 (.wr 8 .fin)))))))))) (λw'=>At w0 p ((w.heap.size+1+1,bP (.slice Ao no co))::(w.heap.size+1,bP (.slice A b.length cb))::(w.heap.size,aO pf)::(pf,ax p nm size g ks.length c f)::fs) s w') (by kernel_rfl) (by kernel_rfl) (λc a d v w h=>by cases d<;>exact h) (HA.out.below ((ak _ _).drew)) ?_;repeat
  refine az (v:= ?_) (by rfl) (by rfl) (λw' hS=> ?_) (λK hK=> ?_);rotate_left
  ·obtain⟨r1,r2,r3,r4⟩:=eM.out _ (λ_ hx=>hx) w' hS;have hc1:=aj w' pf r1;have hc2:=aj w' w.heap.size r2;have hc3:=λj=>ah w' (w.heap.size+1) j _ _ _ r3;have k1:=r4.at_ CM;have k2:=r4.len CM;have k3:=r4.dup CM;rw[Nat.zero_mul]at k1 k2 k3;clear r1 r2 r3 r4;clear hS;go_simp;try with_reducible rfl
  go_simp;refine hK _ ?_;clear hK K
 refine cO (by rfl) (by rfl) (λK hK=> ?_) (λK hK=> ?_)
 ·go_simp;refine(HV.out _ _ xm.out _ (HA.out.below ((ak _ _).drew))).mono ?_;rintro e V1 ⟨rfl,hb⟩;have bV:=ae ((HA.out.below ((ak _ _).drew)).below hb);refine hK.out _ _ (λw'=>At w0 p ((w.heap.size+1+1,bP (.slice Ao no co))::(w.heap.size+1,bP (.slice A b.length cb))::(w.heap.size,aO pf)::(pf,ax p nm size g ks.length c f)::fs) s w') (λ_ h=>h) bV.out ?_;clear hK K hb;refine wpPm_write (by rfl) (λK hK=> ?_);go_simp;refine hK.out _ _ (λw'=>At w0 p ((w.heap.size+1+1,bP (.slice Ao no co))::(w.heap.size+1,bP (.slice A b.length cb))::(w.heap.size,aO pf)::(pf,ax p nm size g ks.length c f)::fs) s w') (λ_ h=>h) (bV.out.below ((ak _ V1).alloc (aq _) _)) ?_;clear hK K;have vW:=bV.out.more (aS pv);have XV:=ae (HU.out _ _ _ vW fB.out);have hcf:=(ah (V1.alloc (aS pv)) w.heap.size 0 _ _ _ (vW.get (ag _ (ag _ (ag _ af)))));clear vW HU;show wpList _ _ _ _ _ _;go_wp2_with fail;refine XV.out.mono ?_;rintro e W9 ⟨rfl,hr⟩;have HR:=ae hr;clear hr XV hcf;go_wp2;go_ret;exact⟨rfl,HR.out⟩
 ·go_simp;refine hK.out _ _ (λw'=>At w0 p ((w.heap.size+1+1,bP (.slice Ao no co))::(w.heap.size+1,bP (.slice A b.length cb))::(w.heap.size,aO pf)::(pf,ax p nm size g ks.length c f)::fs) s w') (λ_ h=>h) ((HA.out.below ((ak _ _).drew)).below ((ak _ _).alloc (aq _) _)) ?_;clear hK K;refine wpPm_write (by rfl) (λK hK=> ?_);go_simp;have bV:=ae ((HA.out.below ((ak _ _).drew)).more (aS ⟨#[]⟩));have Im:=ae (HN.out _ (HA.out.below ((ak _ _).drew)));refine(HV.out _ _ (λx hx=>ag _ (xm.out x hx)) _ bV.out).mono ?_;rintro e V1 ⟨rfl,hb⟩;have br:=ae (bV.out.below hb);refine hK.out _ _ (λw'=>At w0 p ((w.heap.size+1+1,bP (.slice Ao no co))::(w.heap.size+1,bP (.slice A b.length cb))::(w.heap.size,aO pf)::(pf,ax p nm size g ks.length c f)::fs) s w') (λ_ h=>h) (br.out.less (λx hx=>ag _ hx)) ?_;clear hK K hb;have Uo:(((w.alloc (aO pf)).alloc (bP (.slice A b.length cb))).alloc (bP (.slice Ao no co))).drew.heap.size=w.heap.size+1+1+1:=(by simp);rw[Uo]at br Im;have vW:=br.out.yL (Im.out) HT.out pv;have XV:=ae (HU.out _ _ _ vW fB.out);have ea:=(ah V1 (w.heap.size+1+1+1) 0 _ _ _ (br.out.get af));have SA:=aC (br.out.get af);have hcf:=(ah (V1.setCell ⟨(w.heap.size+1+1+1),0,none⟩ (.string pv)) w.heap.size 0 _ _ _ (vW.get (ag _ (ag _ (ag _ af)))));clear vW HU;show wpList _ _ _ _ _ _;go_wp2_with fail;refine XV.out.mono ?_;rintro e W9 ⟨rfl,hr⟩;have HR:=ae hr;clear hr XV ea SA hcf;go_wp2;go_ret;exact⟨rfl,HR.out⟩
end
namespace X
def uW (ks:List Ky) (rows:List Row) (i:Nat) (b:J.B) (old:Option Row):Bool:= !keeps ks i b old&&rows.any λr=>decide (val ks i r.b=val ks i b)
def bB (ks:List Ky) (rows:List Row) (b:J.B) (old:Option Row) (j:Nat):List Bool:=((List.range' 1 j).filter λi=>uW ks rows i b old).map λi=>(aF ks i).dup
theorem uX {ks:List Ky} {rows:List Row} {b:J.B} {old:Option Row} {j:Nat} (h:uW ks rows (j+1) b old=true):bB ks rows b old (j+1)=bB ks rows b old j++[(aF ks (j+1)).dup]:=by
 unfold bB;rw[List.range'_1_concat,List.filter_append,List.map_append];simp[Nat.add_comm 1 j,h]
theorem rW {ks:List Ky} {rows:List Row} {b:J.B} {old:Option Row} {j:Nat} (h:uW ks rows (j+1) b old=false):bB ks rows b old (j+1)=bB ks rows b old j:=by
 unfold bB;rw[List.range'_1_concat,List.filter_append,List.map_append];simp[Nat.add_comm 1 j,h]
theorem mV (ks:List Ky) (rows:List Row) (b:J.B) (old:Option Row) (j d:Nat):bB ks rows b old j<+:bB ks rows b old (j+d):=by
 unfold bB;have:List.range' 1 (j+d)=List.range' 1 j++List.range' (1+j) d:=(List.range'_append_1 ..).symm;rw[this,List.filter_append,List.map_append];exact List.prefix_append _ _
end X
def Mw (b0:Nat) (W W':World):Prop:=Below b0 W W'∧De (λ_ j=>j=b0∨j=b0+1) W W'
theorem Mw.t {b0:Nat} {A B C:World} (h:Mw b0 A B) (k:Mw b0 B C):Mw b0 A C:=⟨h.1.trans k.1,h.2.t k.2⟩
structure AB (w0:World) (p:Nat) (fs:List (Nat×Obj)) (s:J.St) (w1 W:World):Prop where
 at_:At w0 p fs s W
 bel:Below w1.heap.size w1 W
theorem AB.below {w0 w1 W W':World} {p:Nat} {fs:List (Nat×Obj)} {s:J.St} (h:AB w0 p fs s w1 W) (hb:Below W.heap.size W W'):AB w0 p fs s w1 W':=⟨h.at_.below hb,h.bel.trans (hb.mono h.bel.size)⟩
abbrev Mx (x:Bool):Value:= .bool x
section
variable {w0 : World} {p pf g c size ct u : Nat} {nm : J.B} {ks : List X.Ky} {rows : List X.Row} {f : Fv} {w w' : World} {s s1 s2 : J.St} {fs : List (Nat × Obj)} {ok : Obj}
variable {b : J.B} {old : Option X.Row} {A : Option Addr} {cb Bf Bo Bb : Nat} {vo : Value} {Jv Jx : List Bool → World → Prop}
abbrev pK (pf Bf Bo Bb:Nat) (A:Option Addr) (n cb:Nat) (vo:Value):List (Nat×Obj):=[(Bf,aO pf),(Bo,bP vo),(Bb,bP (.slice A n cb))]
structure sZ (w:World) (ks:List X.Ky) (rows:List X.Row) (b:J.B) (old:Option X.Row) (pf Bf Bo Bb:Nat) (A:Option Addr) (cb:Nat) (vo:Value) (Jv:List Bool→World→Prop) (k:Nat) (W:World):Prop where
 j:Jv (X.bB ks rows b old k) W
 bel:Below w.heap.size w W
 bx:∀x∈pK pf Bf Bo Bb A b.length cb vo,w.heap.size+2≤x.1∧W.heap[x.1]? =some x.2
theorem sZ.at_ {k:Nat} (h:sZ w ks rows b old pf Bf Bo Bb A cb vo Jv k w') (ha:At w0 p fs s w):At w0 p (pK pf Bf Bo Bb A b.length cb vo++fs) s w':=
 ha.add h.bel (λx hx=>⟨by have:=(h.bx x hx).1;omega,(h.bx x hx).2⟩)
theorem sZ.step {k j:Nat} {W0 W1:World} (h:sZ w ks rows b old pf Bf Bo Bb A cb vo Jv k w') (hb:Below w'.heap.size w' W1) (hJ:AbidesFrom W0.heap.size Jv) (hl:X.bB ks rows b old j=X.bB ks rows b old k):sZ w ks rows b old pf Bf Bo Bb A cb vo Jv j W1:=
 ⟨by rw[hl];exact hJ _ w' W1 none h.j (nV hb) (λr e=>by cases e),h.bel.trans (hb.mono h.bel.size),λx hx=>⟨(h.bx x hx).1,(hb.block x.1 (ai (h.bx x hx).2).1).trans (h.bx x hx).2⟩⟩
theorem sZ.go {k j:Nat} {W1:World} (h:sZ w ks rows b old pf Bf Bo Bb A cb vo Jv k w') (hk:Mw w.heap.size w' W1) (hj:Jv (X.bB ks rows b old j) W1):sZ w ks rows b old pf Bf Bo Bb A cb vo Jv j W1:=
 ⟨hj,h.bel.trans hk.1,λx hx=>⟨(h.bx x hx).1,hk.2.1 _ _ (h.bx x hx).2 (by simp only[pK,List.mem_cons,List.not_mem_nil,or_false]at hx;rcases hx with rfl|rfl|rfl<;>rfl) (λhc=>by have:=(h.bx x hx).1;omega)⟩⟩
theorem yM (n:Nat) (hn:1≤n) (l:Nat) (h:At w0 p fs s w) (hF:(pf,ax p nm size g ks.length c f)∈fs) (bC:(g,ok)∈fs) (hO:bJ ok ks) (hcap:ks.length≤c) (hX:XF nm size ks rows ct s.now) (dX:Src w0 p fs (.slice A b.length cb) b) (aZ:X.bj ks size b=true) (hold:rP w0 p fs vo none)
  (W:World) (hW:Below w.heap.size w W) (hJ:AbidesFrom W.heap.size Jv) (dM:∀x∈pK pf Bf Bo Bb A b.length cb vo,w.heap.size+2≤x.1∧W.heap[x.1]? =some x.2) (h0:Jv [] W)
  (hY:∀xs x W,Jv xs W→xs.length<(X.bB ks rows b none (ks.length - 1)).length→YieldAt Fence.wide (n - 1) Tryz.prog l #[Mx x] W λe W'=>(e= .returned (.bool true)∧Jv (xs++[x]) W'∧Mw w.heap.size W W')∨(e= .returned (.bool false)∧Jx (xs++[x]) W')):
  CallsIn Fence.wide n Tryz.prog 136 #[.func (.yield l) #[] #[], .pointer (some ⟨Bf,0,none⟩), .pointer (some ⟨Bo,0,none⟩), .pointer (some ⟨Bb,0,none⟩)] W λe W'=>(∃v,e= .returned v)∧
   ((∃ys,ys=X.bB ks rows b none (ks.length - 1)∧Jv ys W')∨(∃q,q<+:X.bB ks rows b none (ks.length - 1)∧Jx q W')):=by
 obtain rfl:vo= .slice none 0 0:=hold;have bg:=hX.ks.one;obtain⟨A',eG,hA'⟩:=gZ g ks.length c bg.1 hcap;have eu:=ae (⟨h0,hW,dM⟩:sZ w ks rows b none pf Bf Bo Bb A cb (.slice none 0 0) Jv 0 W);have hat:=eu.out.at_ h;have hc1:=aj W pf (hat.get (List.mem_append_right _ hF));have hc2:=aj W Bf (dM (Bf,aO pf) af).2;have Xu:=ae hA';have HX:=ae hX;have mI:=ae aZ;have DK:=ae dX;have HF:=ae hF;have lj:=ae bC;have HO:=ae hO;have HA:=ae h;have dL:=ae bg;have HY:=ae hY;have HJ:=ae hJ;have vZ:=ae (show b.length≤4096 by have h1:=(X.aR.1 aZ).1;have h2:=hX.ks.size;omega);have Ho:=ae (X.aR.1 aZ).2;clear h hF bC hO hcap hX dX aZ hW hJ dM h0 hY bg hA' hat;refine callsIn_of_wp Tryz.func136 rfl trivial ?_ rfl;simp only[Tryz.ntmps136,List.size_toArray,List.length_cons,List.length_nil,Nat.reduceAdd,Nat.reduceSub,Array.replicate_succ,Array.replicate_zero,List.push_toArray,List.append_toArray,List.nil_append,List.cons_append]
 gi_wp2
 clear hc1 hc2 eG
 gi_loopw [17] (λt W=>∃k:Nat,k≤ks.length - 1∧t= .int .i64 k∧Hid (sZ w ks rows b none pf Bf Bo Bb A cb (.slice none 0 0) Jv k W)) (λt _=>ks.length - 1 - (intOf t).toNat)
 case atStart=>exact⟨0,Nat.zero_le _,rfl,eu⟩
 case round=>
  clear eu;obtain⟨k,hk,rfl,HI⟩:=hrel;by_cases hlt:k<ks.length - 1
  ·have fP:k+1<ks.length:=(by omega);have il:=ae fP;have aW:=ae hlt;have eK:Hid (k≤1000000):=ae (by have:=dL.out;omega);have e1:A'=some ⟨g,3,none⟩:=Xu.out (by omega);subst e1;have hat:=HI.out.at_ HA.out;have bY:=HO.out.2 wr g (hat.get (List.mem_append_right _ lj.out));have k1:=bY.at_ fP;have k2:=bY.len fP;have k3:=bY.dup fP;rw[show(k+1)*3=3+k*3 by omega]at k1 k2 k3;have Md:(k:Int)<((ks.length - 1:Nat):Int):=(by omega);have HZ:=ae (heap_alloc_new wr dN);have pV:=ae hat;clear bY fP hat
   gi_upto_region 2 with fail
   refine wpIn_wide.2 ?_;go_wp2_with (refine wpList_store_row rfl _ _ 66 rfl wr.heap.size rfl _ rfl _ _ HZ.out rfl (by kernel_rfl) rfl ?_);intro W2 hrow hg hsz;obtain⟨ha2,hb2⟩:=pV.out.stored dN hg;have hrow:W2.heap[wr.heap.size]? =some (aP (X.aF ks (k+1))):=hrow;have rI:=pV.out.add hb2 (gs:=[(wr.heap.size,aP (X.aF ks (k+1)))]) (λx hx=>by simp only[List.mem_singleton]at hx;subst hx;exact⟨aq _,hrow⟩);generalize TZ:wr.heap.size=Bk at rI hrow⊢;have cU:Hid (AB w0 p ((Bk,aP (X.aF ks (k+1)))::(pK pf Bf Bo Bb A b.length cb (.slice none 0 0)++fs)) s wr W2):=ae ⟨rI,hb2⟩;have eM:Hid (∀W1,At w0 p ((Bk,aP (X.aF ks (k+1)))::(pK pf Bf Bo Bb A b.length cb (.slice none 0 0)++fs)) s W1→W1.heap[pf]? =some (ax p nm size g ks.length c f)∧W1.heap[Bf]? =some (aO pf)∧W1.heap[Bo]? =some (bP (.slice none 0 0))∧W1.heap[Bb]? =some (bP (.slice A b.length cb))∧W1.heap[Bk]? =some (aP (X.aF ks (k+1)))):=
    ae (λW1 hh=>⟨hh.get (ag _ (List.mem_append_right _ HF.out)),hh.get (ag _ af),hh.get (ag _ (ag _ af)),hh.get (ag _ (ag _ (ag _ af))),hh.get af⟩)
   have gz:=ae (λw1 (hh:At w0 p ((Bk,aP (X.aF ks (k+1)))::(pK pf Bf Bo Bb A b.length cb (.slice none 0 0)++fs)) s w1)=>cw (X.aF ks (k+1)) (.slice A b.length cb) b bF w1 (DK.out _ _ _ (λx hx=>ag _ (List.mem_append_right _ hx)) hh) (Ho.out _ (X.aU il.out)) (by have:=vZ.out;omega));have js:(X.aF ks (k+1)).val b=X.val ks (k+1) b:=rfl;rw[js]at gz;have SC:=ae (λW=>bL nm size (some ⟨g,0,none⟩) ks.length c (k+1) (by have:=dL.out;have:=aW.out;omega) (by have:=HX.out.nm;omega) W);have oU:(X.val ks (k+1) b).length=X.lens ks (k+1):=X.aV mI.out il.out;have Ec:=HX.out.con.rG HX.out.ks HX.out.rows (by have:=HX.out.ct;omega) il.out oU;have vJ:=ae (λw1 (hh:At w0 p ((Bk,aP (X.aF ks (k+1)))::(pK pf Bf Bo Bb A b.length cb (.slice none 0 0)++fs)) s w1)=>iA hh ⟨(X.pre nm (k+1)++X.val ks (k+1) b).toArray⟩ (X.pre nm (k+1)++X.val ks (k+1) b) true (by have:=HX.out.many;omega));rw[Ec]at vJ;simp only[Option.isSome_map]at vJ;rw[X.uA]at vJ;have hap:(⟨(X.pre nm (k+1)).toArray⟩:ByteArray)++⟨(X.val ks (k+1) b).toArray⟩=⟨(X.pre nm (k+1)++X.val ks (k+1) b).toArray⟩:=fT _ _;have hs1:(⟨(X.pre nm (k+1)).toArray⟩:ByteArray).size≤1000:=by
    have h1:=X.gU nm (k+1);have:=HX.out.nm;rw[bh];omega
   have hs2:(⟨(X.val ks (k+1) b).toArray⟩:ByteArray).size≤1000:=by
    have:=(HX.out.lens il.out).2;rw[bh];omega
   generalize(⟨(X.pre nm (k+1)++X.val ks (k+1) b).toArray⟩:ByteArray)=key at hap vJ;generalize(⟨(X.pre nm (k+1)).toArray⟩:ByteArray)=pp at hap SC hs1;generalize(⟨(X.val ks (k+1) b).toArray⟩:ByteArray)=vb at hap gz hs2;generalize(⟨(Option.getD (Option.map (X.aN nm ks (k+1)) _) []).toArray⟩:ByteArray)=rs at vJ;have hcb:X.uW ks rows (k+1) b none=(!X.keeps ks (k+1) b none&&rows.any λr=>decide (X.val ks (k+1) r.b=X.val ks (k+1) b)):=rfl;generalize(rows.any λr=>decide (X.val ks (k+1) r.b=X.val ks (k+1) b))=an at hcb vJ;have Bt:=ae hcb;have Me:wrap64 ((k:Int)+1)=((k+1:Nat):Int):=oJ eK.out;have Ui:IntKind.i64.wrap ((k:Int)+1)=((k+1:Nat):Int):=qR eK.out;clear hcb js k1 k2 k3 Md HZ ha2 hb2 hrow hg hsz rI TZ Ec oU;go_wp2_with fail
   gi_upto_region 3 with fail
   refine wpIn_wide.2 ?_;refine aK (.rd 0 (.rd 1 (.rd 2 (.rd 3 (.rd 4 (.rd 6 (.rd 7 (.wr 5 (.wr 8 (.rd 9 (.rd 10 .fin))))))))))) (λw'=>AB w0 p ((Bk,aP (X.aF ks (k+1)))::(pK pf Bf Bo Bb A b.length cb (.slice none 0 0)++fs)) s wr w') (by kernel_rfl) (by kernel_rfl) (λc a d v w h=>by cases d<;>exact h) (cU.out.below ((ak _ _).drew)) ?_;repeat
    first
    |refine az (v:= ?_) (by rfl) (by rfl) (λw' hS=> ?_) (λK hK=> ?_)
     rotate_left
     ·obtain⟨r1,r2,r3,r4,r5⟩:=eM.out w' hS.at_;have hc1:=aj w' pf r1;have hc2:=aj w' Bf r2;have hc3:=aj w' Bo r3;have gR:=aj w' Bb r4;have ea:=aj w' Bk r5;clear r1 r2 r3 r4 r5;clear hS;go_simp;try with_reducible rfl
     go_simp;refine hK _ ?_;clear hK K
    |refine ay (by rfl) (by rfl) (λK hK=> ?_)
     go_simp;refine hK _ ?_;clear hK K
   refine wpPm_write (by rfl) (λK hK=> ?_);go_simp;refine hK.out _ _ (λw'=>AB w0 p ((Bk,aP (X.aF ks (k+1)))::(pK pf Bf Bo Bb A b.length cb (.slice none 0 0)++fs)) s wr w') (λ_ h=>h) (cU.out.below ((ak _ _).drew)) ?_;clear hK K;refine wpPm_write (by rfl) (λK hK=> ?_);go_simp;refine hK.out _ _ (λw'=>AB w0 p ((Bk,aP (X.aF ks (k+1)))::(pK pf Bf Bo Bb A b.length cb (.slice none 0 0)++fs)) s wr w') (λ_ h=>h) (cU.out.below ((ak _ _).drew)) ?_;clear hK K;repeat
    first
    |refine az (v:= ?_) (by rfl) (by rfl) (λw' hS=> ?_) (λK hK=> ?_)
     rotate_left
     ·obtain⟨r1,r2,r3,r4,r5⟩:=eM.out w' hS.at_;have hc1:=aj w' pf r1;have hc2:=aj w' Bf r2;have hc3:=aj w' Bo r3;have gR:=aj w' Bb r4;have ea:=aj w' Bk r5;clear r1 r2 r3 r4 r5;clear hS;go_simp;try with_reducible rfl
     go_simp;refine hK _ ?_;clear hK K
    |refine ay (by rfl) (by rfl) (λK hK=> ?_)
     go_simp;refine hK _ ?_;clear hK K
   show wpList _ _ _ _ _ _;refine aM (λY=>AB w0 p ((Bk,aP (X.aF ks (k+1)))::(pK pf Bf Bo Bb A b.length cb (.slice none 0 0)++fs)) s wr Y) (cU.out.below ((ak _ _).drew)) ?_;intro W4 ya;have cZ:=ae ya;clear ya cU;go_wp2_with fail
   gi_upto_region 4 with fail
   refine wpIn_wide.2 ?_;refine aD 9 (.rd 0 (.rd 1 (.rd 2 (.rd 3 (.rd 4 (.rd 5 (.rd 7 (.rd 8 (.wr 6 .fin))))))))) (λw'=>AB w0 p ((Bk,aP (X.aF ks (k+1)))::(pK pf Bf Bo Bb A b.length cb (.slice none 0 0)++fs)) s wr w') (by kernel_rfl) (by kernel_rfl) (λc a d v w h=>by cases d<;>exact h) (cZ.out.below ((ak _ _).drew)) ?_;repeat
    refine az (v:= ?_) (by rfl) (by rfl) (λw' hS=> ?_) (λK hK=> ?_);rotate_left
    ·obtain⟨r1,r2,r3,r4,r5⟩:=eM.out w' hS.at_;have hc1:=aj w' pf r1;have hc2:=aj w' Bf r2;have hc3:=aj w' Bo r3;have gR:=aj w' Bb r4;have ea:=aj w' Bk r5;clear r1 r2 r3 r4 r5;clear hS;go_simp;try with_reducible rfl
    go_simp;refine hK _ ?_;clear hK K
   refine wpPm_write (by rfl) (λK hK=> ?_);go_simp;refine(SC.out _).mono ?_;rintro e W6 ⟨rfl,hb⟩;have dC:=ae ((cZ.out.below ((ak _ _).drew)).below hb);clear hb SC;refine hK.out _ _ (λw'=>AB w0 p ((Bk,aP (X.aF ks (k+1)))::(pK pf Bf Bo Bb A b.length cb (.slice none 0 0)++fs)) s wr w') (λ_ h=>h) dC.out ?_;clear hK K;show wpList _ _ _ _ _ _;go_wp2_with fail;refine(gz.out _ dC.out.at_).mono ?_;rintro e W7 ⟨rfl,hb⟩;have cQ:=ae (dC.out.below hb);clear hb gz dC;obtain⟨r1,r2,r3,r4,r5⟩:=eM.out W7 cQ.out.at_;have hc1:=aj W7 pf r1;have hc2:=aj W7 Bf r2;have hc3:=aj W7 Bo r3;have gR:=aj W7 Bb r4;have ea:=aj W7 Bk r5;clear r1 r2 r3 r4 r5;go_wp2_with fail
   gi_wp2_with fail
   refine And.intro trivial ?_;refine(callsIn_wide.2 (vJ.out _ cQ.out.at_)).mono ?_;rintro e W8 ⟨rfl,hb⟩;have ig:=ae (cQ.out.below hb);clear hb vJ cQ hc1 hc2 hc3 gR ea;obtain⟨r1,r2,r3,r4,r5⟩:=eM.out W8 ig.out.at_;have hc1:=aj W8 pf r1;have hc2:=aj W8 Bf r2;have hc3:=aj W8 Bo r3;have gR:=aj W8 Bb r4;have ea:=aj W8 Bk r5;clear r1 r2 r3 r4 r5;cases an with
   |false=>
    have XW:=ae (HI.out.step ig.out.bel HJ.out (X.rW (by rw[Bt.out];simp)));clear HI ig
    gi_wp2
    refine⟨λ_ h=>(by cases h), ?_⟩
    gi_wp2
    go_roundw
    case rel=>exact⟨k+1,aW.out,by first|exact bz k eK.out|exact bc k,XW⟩
    case measure=>first|exact bm aW.out eK.out|exact aX aW.out
   |true=>
    have cq:=X.uX (by rw[Bt.out,show X.keeps ks (k+1) b none=false from rfl];rfl);have Br:=ae (HI.out.step ig.out.bel HJ.out rfl);have hlen:(X.bB ks rows b none k).length<(X.bB ks rows b none (ks.length - 1)).length:=by
     obtain⟨t,ht⟩:=X.mV ks rows b none (k+1) (ks.length - 1 - (k+1));rw[show k+1+(ks.length - 1 - (k+1))=ks.length - 1 by have:=aW.out;omega]at ht;rw[←ht,cq];simp
    obtain⟨fn,tmps,assign,body,hy,hR⟩:=HY.out _ (X.aF ks (k+1)).dup W8 Br.out.j hlen;have nb:=ae cq;clear HI ig cq hlen
    gi_wp2_with fail
    refine hR.mono ?_;rintro e W9 (⟨rfl,XX,Su⟩|⟨rfl,RY⟩)
    ·have HJ9:=ae (Br.out.go (j:=k+1) Su (by rw[nb.out];exact XX));clear XX Su hR hy Br hc1 hc2 hc3 gR ea
     gi_wp2
     go_roundw
     case rel=>exact⟨k+1,aW.out,by first|exact bz k eK.out|exact bc k,HJ9⟩
     case measure=>first|exact bm aW.out eK.out|exact aX aW.out
    ·have TA:=ae RY;clear RY hR hy Br hc1 hc2 hc3 gR ea
     gi_wp2
     refine bodyPost_ret (results_none rfl _ _ _) rfl ?_;refine⟨⟨_,rfl⟩, .inr ⟨_, ?_,by rw[←nb.out]at TA;exact TA.out⟩⟩;have:=X.mV ks rows b none (k+1) (ks.length - 1 - (k+1));rw[show k+1+(ks.length - 1 - (k+1))=ks.length - 1 by have:=aW.out;omega]at this;exact this
  ·obtain rfl:k=ks.length - 1:=(by omega);have WE:=ae HI.out.j;clear HI
   gi_wp2
   go_end0;exact⟨⟨_,rfl⟩, .inl ⟨_,rfl,WE.out⟩⟩
theorem yN (n:Nat) (hn:1≤n) (l:Nat) {o:X.Row} (yH:X.bj ks size o.b=true) (h:At w0 p fs s w) (hF:(pf,ax p nm size g ks.length c f)∈fs) (bC:(g,ok)∈fs) (hO:bJ ok ks) (hcap:ks.length≤c) (hX:XF nm size ks rows ct s.now) (dX:Src w0 p fs (.slice A b.length cb) b) (aZ:X.bj ks size b=true) (hold:rP w0 p fs vo (some o))
  (W:World) (hW:Below w.heap.size w W) (hJ:AbidesFrom W.heap.size Jv) (dM:∀x∈pK pf Bf Bo Bb A b.length cb vo,w.heap.size+2≤x.1∧W.heap[x.1]? =some x.2) (h0:Jv [] W)
  (hY:∀xs x W,Jv xs W→xs.length<(X.bB ks rows b (some o) (ks.length - 1)).length→YieldAt Fence.wide (n - 1) Tryz.prog l #[Mx x] W λe W'=>(e= .returned (.bool true)∧Jv (xs++[x]) W'∧Mw w.heap.size W W')∨(e= .returned (.bool false)∧Jx (xs++[x]) W')):
  CallsIn Fence.wide n Tryz.prog 136 #[.func (.yield l) #[] #[], .pointer (some ⟨Bf,0,none⟩), .pointer (some ⟨Bo,0,none⟩), .pointer (some ⟨Bb,0,none⟩)] W λe W'=>(∃v,e= .returned v)∧
   ((∃ys,ys=X.bB ks rows b (some o) (ks.length - 1)∧Jv ys W')∨(∃q,q<+:X.bB ks rows b (some o) (ks.length - 1)∧Jx q W')):=by
 obtain⟨⟨bo,oo,co,rfl⟩,Cx⟩:=hold;have bg:=hX.ks.one;obtain⟨A',eG,hA'⟩:=gZ g ks.length c bg.1 hcap;have eu:=ae (⟨h0,hW,dM⟩:sZ w ks rows b (some o) pf Bf Bo Bb A cb (.slice (some ⟨bo,oo,none⟩) o.b.length co) Jv 0 W);have hat:=eu.out.at_ h;have hc1:=aj W pf (hat.get (List.mem_append_right _ hF));have hc2:=aj W Bf (dM (Bf,aO pf) af).2;have Xu:=ae hA';have HX:=ae hX;have mI:=ae aZ;have sN:=ae Cx;have DK:=ae dX;have HF:=ae hF;have lj:=ae bC;have HO:=ae hO;have HA:=ae h;have dL:=ae bg;have HY:=ae hY;have HJ:=ae hJ;have Qb:=ae yH;have vZ:=ae (show b.length≤4096 by have h1:=(X.aR.1 aZ).1;have h2:=hX.ks.size;omega);have Ho:=ae (X.aR.1 aZ).2;clear h hF bC hO hcap hX dX aZ Cx hW hJ dM h0 hY bg hA' hat yH;refine callsIn_of_wp Tryz.func136 rfl trivial ?_ rfl;simp only[Tryz.ntmps136,List.size_toArray,List.length_cons,List.length_nil,Nat.reduceAdd,Nat.reduceSub,Array.replicate_succ,Array.replicate_zero,List.push_toArray,List.append_toArray,List.nil_append,List.cons_append]
 gi_wp2
 clear hc1 hc2 eG
 gi_loopw [17] (λt W=>∃k:Nat,k≤ks.length - 1∧t= .int .i64 k∧Hid (sZ w ks rows b (some o) pf Bf Bo Bb A cb (.slice (some ⟨bo,oo,none⟩) o.b.length co) Jv k W)) (λt _=>ks.length - 1 - (intOf t).toNat)
 case atStart=>exact⟨0,Nat.zero_le _,rfl,eu⟩
 case round=>
  clear eu;obtain⟨k,hk,rfl,HI⟩:=hrel;by_cases hlt:k<ks.length - 1
  ·have fP:k+1<ks.length:=(by omega);have il:=ae fP;have aW:=ae hlt;have eK:Hid (k≤1000000):=ae (by have:=dL.out;omega);have e1:A'=some ⟨g,3,none⟩:=Xu.out (by omega);subst e1;have hat:=HI.out.at_ HA.out;have bY:=HO.out.2 wr g (hat.get (List.mem_append_right _ lj.out));have k1:=bY.at_ fP;have k2:=bY.len fP;have k3:=bY.dup fP;rw[show(k+1)*3=3+k*3 by omega]at k1 k2 k3;have Md:(k:Int)<((ks.length - 1:Nat):Int):=(by omega);have HZ:=ae (heap_alloc_new wr dN);have pV:=ae hat;clear bY fP hat
   gi_upto_region 2 with fail
   refine wpIn_wide.2 ?_;go_wp2_with (refine wpList_store_row rfl _ _ 66 rfl wr.heap.size rfl _ rfl _ _ HZ.out rfl (by kernel_rfl) rfl ?_);intro W2 hrow hg hsz;obtain⟨ha2,hb2⟩:=pV.out.stored dN hg;have hrow:W2.heap[wr.heap.size]? =some (aP (X.aF ks (k+1))):=hrow;have rI:=pV.out.add hb2 (gs:=[(wr.heap.size,aP (X.aF ks (k+1)))]) (λx hx=>by simp only[List.mem_singleton]at hx;subst hx;exact⟨aq _,hrow⟩);generalize TZ:wr.heap.size=Bk at rI hrow⊢;have cU:Hid (AB w0 p ((Bk,aP (X.aF ks (k+1)))::(pK pf Bf Bo Bb A b.length cb (.slice (some ⟨bo,oo,none⟩) o.b.length co)++fs)) s wr W2):=ae ⟨rI,hb2⟩;have eM:Hid (∀W1,At w0 p ((Bk,aP (X.aF ks (k+1)))::(pK pf Bf Bo Bb A b.length cb (.slice (some ⟨bo,oo,none⟩) o.b.length co)++fs)) s W1→W1.heap[pf]? =some (ax p nm size g ks.length c f)∧W1.heap[Bf]? =some (aO pf)∧W1.heap[Bo]? =some (bP (.slice (some ⟨bo,oo,none⟩) o.b.length co))∧W1.heap[Bb]? =some (bP (.slice A b.length cb))∧W1.heap[Bk]? =some (aP (X.aF ks (k+1)))):=
    ae (λW1 hh=>⟨hh.get (ag _ (List.mem_append_right _ HF.out)),hh.get (ag _ af),hh.get (ag _ (ag _ af)),hh.get (ag _ (ag _ (ag _ af))),hh.get af⟩)
   have gz:=ae (λw1 (hh:At w0 p ((Bk,aP (X.aF ks (k+1)))::(pK pf Bf Bo Bb A b.length cb (.slice (some ⟨bo,oo,none⟩) o.b.length co)++fs)) s w1)=>cw (X.aF ks (k+1)) (.slice A b.length cb) b bF w1 (DK.out _ _ _ (λx hx=>ag _ (List.mem_append_right _ hx)) hh) (Ho.out _ (X.aU il.out)) (by have:=vZ.out;omega));have js:(X.aF ks (k+1)).val b=X.val ks (k+1) b:=rfl;rw[js]at gz;have SC:=ae (λW=>bL nm size (some ⟨g,0,none⟩) ks.length c (k+1) (by have:=dL.out;have:=aW.out;omega) (by have:=HX.out.nm;omega) W);have oU:(X.val ks (k+1) b).length=X.lens ks (k+1):=X.aV mI.out il.out;have Ec:=HX.out.con.rG HX.out.ks HX.out.rows (by have:=HX.out.ct;omega) il.out oU;have vJ:=ae (λw1 (hh:At w0 p ((Bk,aP (X.aF ks (k+1)))::(pK pf Bf Bo Bb A b.length cb (.slice (some ⟨bo,oo,none⟩) o.b.length co)++fs)) s w1)=>iA hh ⟨(X.pre nm (k+1)++X.val ks (k+1) b).toArray⟩ (X.pre nm (k+1)++X.val ks (k+1) b) true (by have:=HX.out.many;omega));rw[Ec]at vJ;simp only[Option.isSome_map]at vJ;rw[X.uA]at vJ;have hap:(⟨(X.pre nm (k+1)).toArray⟩:ByteArray)++⟨(X.val ks (k+1) b).toArray⟩=⟨(X.pre nm (k+1)++X.val ks (k+1) b).toArray⟩:=fT _ _;have hs1:(⟨(X.pre nm (k+1)).toArray⟩:ByteArray).size≤1000:=by
    have h1:=X.gU nm (k+1);have:=HX.out.nm;rw[bh];omega
   have hs2:(⟨(X.val ks (k+1) b).toArray⟩:ByteArray).size≤1000:=by
    have:=(HX.out.lens il.out).2;rw[bh];omega
   generalize(⟨(X.pre nm (k+1)++X.val ks (k+1) b).toArray⟩:ByteArray)=key at hap vJ;generalize(⟨(X.pre nm (k+1)).toArray⟩:ByteArray)=pp at hap SC hs1;generalize(⟨(Option.getD (Option.map (X.aN nm ks (k+1)) _) []).toArray⟩:ByteArray)=rs at vJ;have hcb:X.uW ks rows (k+1) b (some o)=(!X.keeps ks (k+1) b (some o)&&rows.any λr=>decide (X.val ks (k+1) r.b=X.val ks (k+1) b)):=rfl;generalize(rows.any λr=>decide (X.val ks (k+1) r.b=X.val ks (k+1) b))=an at hcb vJ;have Bt:=ae hcb;have Me:wrap64 ((k:Int)+1)=((k+1:Nat):Int):=oJ eK.out;have Ui:IntKind.i64.wrap ((k:Int)+1)=((k+1:Nat):Int):=qR eK.out;clear hcb js k1 k2 k3 Md HZ ha2 hb2 hrow hg hsz rI TZ Ec oU;have xk:=ae (λw1 (hh:At w0 p ((Bk,aP (X.aF ks (k+1)))::(pK pf Bf Bo Bb A b.length cb (.slice (some ⟨bo,oo,none⟩) o.b.length co)++fs)) s w1)=>cw (X.aF ks (k+1)) (.slice (some ⟨bo,oo,none⟩) o.b.length co) o.b bF w1 (sN.out _ _ _ (λx hx=>ag _ (List.mem_append_right _ hx)) hh) ((X.aR.1 Qb.out).2 _ (X.aU il.out)) (by have:=(X.aR.1 Qb.out).1;have:=HX.out.ks.size;omega));have js:(X.aF ks (k+1)).val o.b=X.val ks (k+1) o.b:=rfl;rw[js]at xk;have hq:=df (X.val ks (k+1) o.b) (X.val ks (k+1) b);have Xx:X.keeps ks (k+1) b (some o)=decide (X.val ks (k+1) o.b=X.val ks (k+1) b):=rfl;rw[←Xx]at hq;generalize(⟨(X.val ks (k+1) o.b).toArray⟩:ByteArray)=vvo at xk hq;generalize(⟨(X.val ks (k+1) b).toArray⟩:ByteArray)=vb at hap gz hs2 hq;clear js Xx;cases Be:X.keeps ks (k+1) b (some o)with
   |true=>
    rw[Be]at hq;rw[Be]at Bt;clear Be;go_wp2_with fail
    gi_upto_region 3 with fail
    refine wpIn_wide.2 ?_;refine aK (.rd 0 (.rd 1 (.rd 2 (.rd 3 (.rd 4 (.rd 6 (.rd 7 (.wr 5 (.wr 8 (.rd 9 (.rd 10 .fin))))))))))) (λw'=>AB w0 p ((Bk,aP (X.aF ks (k+1)))::(pK pf Bf Bo Bb A b.length cb (.slice (some ⟨bo,oo,none⟩) o.b.length co)++fs)) s wr w') (by kernel_rfl) (by kernel_rfl) (λc a d v w h=>by cases d<;>exact h) (cU.out.below ((ak _ _).drew)) ?_;repeat
     first
     |refine az (v:= ?_) (by rfl) (by rfl) (λw' hS=> ?_) (λK hK=> ?_)
      rotate_left
      ·obtain⟨r1,r2,r3,r4,r5⟩:=eM.out w' hS.at_;have hc1:=aj w' pf r1;have hc2:=aj w' Bf r2;have hc3:=aj w' Bo r3;have gR:=aj w' Bb r4;have ea:=aj w' Bk r5;clear r1 r2 r3 r4 r5;clear hS;go_simp;try with_reducible rfl
      go_simp;refine hK _ ?_;clear hK K
     |refine ay (by rfl) (by rfl) (λK hK=> ?_)
      go_simp;refine hK _ ?_;clear hK K
    refine wpPm_write (by rfl) (λK hK=> ?_);go_simp;refine(xk.out _ (cU.out.below ((ak _ _).drew)).at_).mono ?_;rintro e W4 ⟨rfl,hb⟩;have cZ:=ae ((cU.out.below ((ak _ _).drew)).below hb);clear hb xk;refine hK.out _ _ (λw'=>AB w0 p ((Bk,aP (X.aF ks (k+1)))::(pK pf Bf Bo Bb A b.length cb (.slice (some ⟨bo,oo,none⟩) o.b.length co)++fs)) s wr w') (λ_ h=>h) cZ.out ?_;clear hK K;refine wpPm_write (by rfl) (λK hK=> ?_);go_simp;refine(gz.out _ cZ.out.at_).mono ?_;rintro e W5 ⟨rfl,hb⟩;have eI:=ae (cZ.out.below hb);clear hb;refine hK.out _ _ (λw'=>AB w0 p ((Bk,aP (X.aF ks (k+1)))::(pK pf Bf Bo Bb A b.length cb (.slice (some ⟨bo,oo,none⟩) o.b.length co)++fs)) s wr w') (λ_ h=>h) eI.out ?_;clear hK K;repeat
     first
     |refine az (v:= ?_) (by rfl) (by rfl) (λw' hS=> ?_) (λK hK=> ?_)
      rotate_left
      ·obtain⟨r1,r2,r3,r4,r5⟩:=eM.out w' hS.at_;have hc1:=aj w' pf r1;have hc2:=aj w' Bf r2;have hc3:=aj w' Bo r3;have gR:=aj w' Bb r4;have ea:=aj w' Bk r5;clear r1 r2 r3 r4 r5;clear hS;go_simp;try with_reducible rfl
      go_simp;refine hK _ ?_;clear hK K
     |refine ay (by rfl) (by rfl) (λK hK=> ?_)
      go_simp;refine hK _ ?_;clear hK K
    show wpList _ _ _ _ _ _;clear cU cZ hq;have XW:=ae (HI.out.step eI.out.bel HJ.out (X.rW (by rw[Bt.out];simp)));clear HI eI gz SC vJ;go_wp2_with fail
    gi_wp2
    go_roundw
    case rel=>exact⟨k+1,aW.out,by first|exact bz k eK.out|exact bc k,XW⟩
    case measure=>first|exact bm aW.out eK.out|exact aX aW.out
   |false=>
    rw[Be]at hq;have HKP:=ae Be;clear Be;go_wp2_with fail
    gi_upto_region 3 with fail
    refine wpIn_wide.2 ?_;refine aK (.rd 0 (.rd 1 (.rd 2 (.rd 3 (.rd 4 (.rd 6 (.rd 7 (.wr 5 (.wr 8 (.rd 9 (.rd 10 .fin))))))))))) (λw'=>AB w0 p ((Bk,aP (X.aF ks (k+1)))::(pK pf Bf Bo Bb A b.length cb (.slice (some ⟨bo,oo,none⟩) o.b.length co)++fs)) s wr w') (by kernel_rfl) (by kernel_rfl) (λc a d v w h=>by cases d<;>exact h) (cU.out.below ((ak _ _).drew)) ?_;repeat
     first
     |refine az (v:= ?_) (by rfl) (by rfl) (λw' hS=> ?_) (λK hK=> ?_)
      rotate_left
      ·obtain⟨r1,r2,r3,r4,r5⟩:=eM.out w' hS.at_;have hc1:=aj w' pf r1;have hc2:=aj w' Bf r2;have hc3:=aj w' Bo r3;have gR:=aj w' Bb r4;have ea:=aj w' Bk r5;clear r1 r2 r3 r4 r5;clear hS;go_simp;try with_reducible rfl
      go_simp;refine hK _ ?_;clear hK K
     |refine ay (by rfl) (by rfl) (λK hK=> ?_)
      go_simp;refine hK _ ?_;clear hK K
    refine wpPm_write (by rfl) (λK hK=> ?_);go_simp;refine(xk.out _ (cU.out.below ((ak _ _).drew)).at_).mono ?_;rintro e W4 ⟨rfl,hb⟩;have cZ:=ae ((cU.out.below ((ak _ _).drew)).below hb);clear hb xk;refine hK.out _ _ (λw'=>AB w0 p ((Bk,aP (X.aF ks (k+1)))::(pK pf Bf Bo Bb A b.length cb (.slice (some ⟨bo,oo,none⟩) o.b.length co)++fs)) s wr w') (λ_ h=>h) cZ.out ?_;clear hK K;refine wpPm_write (by rfl) (λK hK=> ?_);go_simp;refine(gz.out _ cZ.out.at_).mono ?_;rintro e W5 ⟨rfl,hb⟩;have eI:=ae (cZ.out.below hb);clear hb;refine hK.out _ _ (λw'=>AB w0 p ((Bk,aP (X.aF ks (k+1)))::(pK pf Bf Bo Bb A b.length cb (.slice (some ⟨bo,oo,none⟩) o.b.length co)++fs)) s wr w') (λ_ h=>h) eI.out ?_;clear hK K;repeat
     first
     |refine az (v:= ?_) (by rfl) (by rfl) (λw' hS=> ?_) (λK hK=> ?_)
      rotate_left
      ·obtain⟨r1,r2,r3,r4,r5⟩:=eM.out w' hS.at_;have hc1:=aj w' pf r1;have hc2:=aj w' Bf r2;have hc3:=aj w' Bo r3;have gR:=aj w' Bb r4;have ea:=aj w' Bk r5;clear r1 r2 r3 r4 r5;clear hS;go_simp;try with_reducible rfl
      go_simp;refine hK _ ?_;clear hK K
     |refine ay (by rfl) (by rfl) (λK hK=> ?_)
      go_simp;refine hK _ ?_;clear hK K
    show wpList _ _ _ _ _ _;clear cU cZ hq;go_wp2_with fail
    gi_upto_region 4 with fail
    refine wpIn_wide.2 ?_;refine aD 9 (.rd 0 (.rd 1 (.rd 2 (.rd 3 (.rd 4 (.rd 5 (.rd 7 (.rd 8 (.wr 6 .fin))))))))) (λw'=>AB w0 p ((Bk,aP (X.aF ks (k+1)))::(pK pf Bf Bo Bb A b.length cb (.slice (some ⟨bo,oo,none⟩) o.b.length co)++fs)) s wr w') (by kernel_rfl) (by kernel_rfl) (λc a d v w h=>by cases d<;>exact h) (eI.out.below ((ak _ _).drew)) ?_;repeat
     refine az (v:= ?_) (by rfl) (by rfl) (λw' hS=> ?_) (λK hK=> ?_);rotate_left
     ·obtain⟨r1,r2,r3,r4,r5⟩:=eM.out w' hS.at_;have hc1:=aj w' pf r1;have hc2:=aj w' Bf r2;have hc3:=aj w' Bo r3;have gR:=aj w' Bb r4;have ea:=aj w' Bk r5;clear r1 r2 r3 r4 r5;clear hS;go_simp;try with_reducible rfl
     go_simp;refine hK _ ?_;clear hK K
    refine wpPm_write (by rfl) (λK hK=> ?_);go_simp;refine(SC.out _).mono ?_;rintro e W6 ⟨rfl,hb⟩;have dC:=ae ((eI.out.below ((ak _ _).drew)).below hb);clear hb SC;refine hK.out _ _ (λw'=>AB w0 p ((Bk,aP (X.aF ks (k+1)))::(pK pf Bf Bo Bb A b.length cb (.slice (some ⟨bo,oo,none⟩) o.b.length co)++fs)) s wr w') (λ_ h=>h) dC.out ?_;clear hK K;show wpList _ _ _ _ _ _;go_wp2_with fail;refine(gz.out _ dC.out.at_).mono ?_;rintro e W7 ⟨rfl,hb⟩;have cQ:=ae (dC.out.below hb);clear hb gz dC;obtain⟨r1,r2,r3,r4,r5⟩:=eM.out W7 cQ.out.at_;have hc1:=aj W7 pf r1;have hc2:=aj W7 Bf r2;have hc3:=aj W7 Bo r3;have gR:=aj W7 Bb r4;have ea:=aj W7 Bk r5;clear r1 r2 r3 r4 r5;go_wp2_with fail
    gi_wp2_with fail
    refine And.intro trivial ?_;refine(callsIn_wide.2 (vJ.out _ cQ.out.at_)).mono ?_;rintro e W8 ⟨rfl,hb⟩;have ig:=ae (cQ.out.below hb);clear hb vJ cQ hc1 hc2 hc3 gR ea;obtain⟨r1,r2,r3,r4,r5⟩:=eM.out W8 ig.out.at_;have hc1:=aj W8 pf r1;have hc2:=aj W8 Bf r2;have hc3:=aj W8 Bo r3;have gR:=aj W8 Bb r4;have ea:=aj W8 Bk r5;clear r1 r2 r3 r4 r5;cases an with
    |false=>
     have XW:=ae (HI.out.step ig.out.bel HJ.out (X.rW (by rw[Bt.out];simp)));clear HI ig
     gi_wp2
     refine⟨λ_ h=>(by cases h), ?_⟩
     gi_wp2
     go_roundw
     case rel=>exact⟨k+1,aW.out,by first|exact bz k eK.out|exact bc k,XW⟩
     case measure=>first|exact bm aW.out eK.out|exact aX aW.out
    |true=>
     have cq:=X.uX (by rw[Bt.out,HKP.out];rfl);have Br:=ae (HI.out.step ig.out.bel HJ.out rfl);have hlen:(X.bB ks rows b (some o) k).length<(X.bB ks rows b (some o) (ks.length - 1)).length:=by
      obtain⟨t,ht⟩:=X.mV ks rows b (some o) (k+1) (ks.length - 1 - (k+1));rw[show k+1+(ks.length - 1 - (k+1))=ks.length - 1 by have:=aW.out;omega]at ht;rw[←ht,cq];simp
     obtain⟨fn,tmps,assign,body,hy,hR⟩:=HY.out _ (X.aF ks (k+1)).dup W8 Br.out.j hlen;have nb:=ae cq;clear HI ig cq hlen
     gi_wp2_with fail
     refine hR.mono ?_;rintro e W9 (⟨rfl,XX,Su⟩|⟨rfl,RY⟩)
     ·have HJ9:=ae (Br.out.go (j:=k+1) Su (by rw[nb.out];exact XX));clear XX Su hR hy Br hc1 hc2 hc3 gR ea
      gi_wp2
      go_roundw
      case rel=>exact⟨k+1,aW.out,by first|exact bz k eK.out|exact bc k,HJ9⟩
      case measure=>first|exact bm aW.out eK.out|exact aX aW.out
     ·have TA:=ae RY;clear RY hR hy Br hc1 hc2 hc3 gR ea
      gi_wp2
      refine bodyPost_ret (results_none rfl _ _ _) rfl ?_;refine⟨⟨_,rfl⟩, .inr ⟨_, ?_,by rw[←nb.out]at TA;exact TA.out⟩⟩;have:=X.mV ks rows b (some o) (k+1) (ks.length - 1 - (k+1));rw[show k+1+(ks.length - 1 - (k+1))=ks.length - 1 by have:=aW.out;omega]at this;exact this
  ·obtain rfl:k=ks.length - 1:=(by omega);have WE:=ae HI.out.j;clear HI
   gi_wp2
   go_end0;exact⟨⟨_,rfl⟩, .inl ⟨_,rfl,WE.out⟩⟩
end
end Go.Proofs.YtipljcmmokaokaaGreat
namespace Go.Proofs.YtipljcmmokaokaaGreat
open Go.RowKit Go.Lib Go.Maps Go.WideMaps Go.Sort Go.Shelf
set_option maxRecDepth 100000
attribute [local go_sem] Oper.semAt_some
namespace X
def pL (l:List Bool):J.B:=if l=[]then [48,48]else [48,50]
def dU (l:List Bool):J.B:=if l.any (!·)=true then [50,50]else pL l
theorem Io (l:List Bool) (x:Bool):pL (l++[x])=[48,50]:=by unfold pL;rw[if_neg (by simp)]
theorem Ed {l:List Bool} (h:∀x∈l,x=true):dU l=pL l:=by
 unfold dU;rw[if_neg];intro hh;obtain⟨x,hx,hn⟩:=List.any_eq_true.1 hh;rw[h x hx]at hn;cases hn
theorem Ef {q l:List Bool} (h:q++[false]<+:l):dU l=[50,50]:=by
 unfold dU;rw[if_pos];obtain⟨t,rfl⟩:=h;simp
theorem Bw (m:M) (b:J.B) (old:Option Row):dU (bB m.ks m.rows b old (m.ks.length - 1))=m.cW b old:=by
 have h1:(bB m.ks m.rows b old (m.ks.length - 1)).any (!·)=(List.range' 1 (m.ks.length - 1)).any (λi=>m.cI i b old&& !(aF m.ks i).dup):=by
  unfold bB;rw[List.any_map,List.any_filter];rfl
 have h2:bB m.ks m.rows b old (m.ks.length - 1)=[]↔(List.range' 1 (m.ks.length - 1)).any (λi=>m.cI i b old)=false:=by
  unfold bB;rw[List.map_eq_nil_iff,List.filter_eq_nil_iff,List.any_eq_false];exact Iff.rfl
 unfold dU pL M.cW;rw[h1];split
 ·rfl
 ·by_cases h:(List.range' 1 (m.ks.length - 1)).any (λi=>m.cI i b old)=true
  ·rw[if_neg (λe=>by rw[h2.1 e]at h;cases h),if_pos h]
  ·rw[if_pos (h2.2 (by simpa using h)),if_neg h]
end X
theorem pw {P:Program} {fn:Func} {p:Tmp} {t1:TypeId} (h:fn.results=#[.cell p t1]) (tmps:Array Value) (w:World) (a:Addr) (x:Value) (hp:tmps.getD p undef= .pointer (some a))
  (h1:P.underlying t1=some .string) (hx:w.cell? a=some x):(results fn tmps).run P w= .ok x w:=by
 have hp':tmps[p]?.getD undef= .pointer (some a):=by simpa using hp
 simp[results,h,hp',asAddr,loadVar,Sem.run_bind,isAgg,go_sem,run_underlying h1,hx]
theorem Qf (b0:Nat) (w:World) (hw:b0≤w.heap.size) (W:World) (l:Nat) (o o':Obj) (hl:w.heap.size≤l) (h:W.heap[l]? =some o) (hc:o.isCells=false) (_:o.isWalk=false):Mw b0 W (W.putObj l o'):=by
 refine⟨?_,λk q hq Sa _=> ?_,by simp,λk _ hk=>hk⟩
 ·exact belowK_b hw W l o o' hl h hc ‹_›
 ·have:k≠l:=λe=>by subst e;rw[h]at hq;injection hq with hq;subst hq;rw[hc]at Sa;cases Sa
  exact(World.putObj_heap_other this).trans hq
theorem Qg (b0:Nat) (W:World) (k:Nat) (hk:k=b0∨k=b0+1) (v:Value):Mw b0 W (W.setCell ⟨k,0,none⟩ v):=by
 refine⟨(ak _ W).setCell (by show b0≤k;omega) _,λj o ho _ hn=> ?_,by simp,λ_ _ hk=>hk⟩;rw[Below.heap_setCell _ _ _ j (by show j≠k;rintro rfl;exact hn hk)];exact ho
section
variable {w0 : World} {p pf g c size ct u : Nat} {nm : J.B} {ks : List X.Ky} {rows : List X.Row} {f : Fv} {w w' : World} {s s1 s2 : J.St} {fs : List (Nat × Obj)} {ok : Obj}
variable {b : J.B} {old : Option X.Row} {A Ao : Option Addr} {cb no co Bf Bo Bb : Nat} {vo : Value}
theorem Eg (w:World) (A:Option Addr) (n cb:Nat) (vo:Value):
  CallsIn Fence.wide 5 Tryz.prog 105 #[.pointer (some ⟨pf,0,none⟩), .slice A n cb, .slice Ao no co] w λe w'=>e= .returned (.func (.func 136) #[] #[.pointer (some ⟨w.heap.size,0,none⟩), .pointer (some ⟨w.heap.size+1+1,0,none⟩), .pointer (some ⟨w.heap.size+1,0,none⟩)])∧w'=((w.alloc (aO pf)).alloc (bP (.slice A n cb))).alloc (bP (.slice Ao no co)):=by
 have _:=vo;refine callsIn_of_wp Tryz.func105 rfl trivial ?_ rfl;simp only[Tryz.ntmps105,List.size_toArray,List.length_cons,List.length_nil,Nat.reduceAdd,Nat.reduceSub,Array.replicate_succ,Array.replicate_zero,List.push_toArray,List.append_toArray,List.nil_append,List.cons_append]
 gi_wp2
 go_ret;exact⟨rfl,rfl⟩
structure Wf (w:World) (re st:J.B) (W:World):Prop where
 r:Boxed W w.heap.size 9 (.string ⟨re.toArray⟩)
 s:Boxed W (w.heap.size+1) 9 (.string ⟨st.toArray⟩)
 bel:Below w.heap.size w W
theorem tL {β:Type} {re:J.B} (st:β→J.B) (B:Nat) (hB:w.heap.size≤B):OwnFrom (β:=β) B (λx W=>Wf w re (st x) W):=λx W W' row h hg hr=>
 ⟨boxed_own B _ _ _ x W W' row h.r hg hr,boxed_own B _ _ _ x W W' row h.s hg hr,ownFrom_below (aq _) hB x W W' row h.bel hg hr⟩
theorem My (h:At w0 p fs s w) (hF:(pf,ax p nm size g ks.length c f)∈fs) (bC:(g,ok)∈fs) (hO:bJ ok ks) (hcap:ks.length≤c) (hX:XF nm size ks rows ct s.now) (dX:Src w0 p fs (.slice A b.length cb) b) (aZ:X.bj ks size b=true) (yH:∀o,old=some o→X.bj ks size o.b=true) (hold:rP w0 p fs (.slice Ao no co) old):
  CallsIn Fence.wide 6 Tryz.prog 56 #[.pointer (some ⟨pf,0,none⟩), .slice A b.length cb, .slice Ao no co] w λe w'=>e= .returned (.string ⟨(X.dU (X.bB ks rows b old (ks.length - 1))).toArray⟩)∧Below w.heap.size w w':=by
 obtain⟨w4,hw4⟩:∃w4,(w.alloc (aS ⟨#[]⟩)).alloc (aS ⟨#[48,48]⟩)=w4:=⟨_,rfl⟩;have hb4:Below w.heap.size w w4:=by
  rw[←hw4];exact((ak _ w).alloc (aq _) _).alloc (by simp) _
 have Dk:w4.heap.size=w.heap.size+2:=by rw[←hw4];simp
 have HS:=ae (Eg (pf:=pf) (Ao:=Ao) (no:=no) (co:=co) w4 A b.length cb (.slice Ao no co));obtain⟨w6,Cr⟩:∃w6,((w4.alloc (aO pf)).alloc (bP (.slice A b.length cb))).alloc (bP (.slice Ao no co))=w6:=⟨_,rfl⟩;have Lb:Below w4.heap.size w4 w6:=by rw[←Cr];exact(((ak _ w4).alloc (aq _) _).alloc (by simp) _).alloc (by simp;omega) _
 have wN:Below w.heap.size w w6:=hb4.trans (Lb.mono hb4.size);have hI6:Wf w [] (X.pL []) w6:=by
  refine⟨?_, ?_,wN⟩
  ·rw[←Cr,←hw4];exact((((Boxed.new w 9 (.string ⟨#[]⟩)).alloc _).alloc _).alloc _).alloc _
  ·have:=((((Boxed.new (w.alloc (aS ⟨#[]⟩)) 9 (.string ⟨#[48,48]⟩)).alloc (aO pf)).alloc (bP (.slice A b.length cb))).alloc (bP (.slice Ao no co)));rw[World.size_alloc]at this;rw[←Cr,←hw4];exact this
 have dM:∀x∈pK pf w4.heap.size (w4.heap.size+1+1) (w4.heap.size+1) A b.length cb (.slice Ao no co),w.heap.size+2≤x.1∧w6.heap[x.1]? =some x.2:=by
  intro x hx;simp only[pK,List.mem_cons,List.not_mem_nil,or_false]at hx;rcases hx with rfl|rfl|rfl
  ·refine⟨by show _≤w4.heap.size;omega, ?_⟩;rw[←Cr];exact((Boxed.new w4 35 (.pointer (some ⟨pf,0,none⟩))).alloc _).alloc _
  ·refine⟨by show _≤w4.heap.size+1+1;omega, ?_⟩;have:=Boxed.new ((w4.alloc (aO pf)).alloc (bP (.slice A b.length cb))) 40 (.slice Ao no co);rw[World.size_alloc,World.size_alloc]at this;rw[←Cr];exact this
  ·refine⟨by show _≤w4.heap.size+1;omega, ?_⟩;have:=(Boxed.new (w4.alloc (aO pf)) 40 (.slice A b.length cb)).alloc (bP (.slice Ao no co));rw[World.size_alloc]at this;rw[←Cr];exact this
 have hst:SeqStopsK Fence.wide 5 Tryz.prog 136 #[.pointer (some ⟨w4.heap.size,0,none⟩), .pointer (some ⟨w4.heap.size+1+1,0,none⟩), .pointer (some ⟨w4.heap.size+1,0,none⟩)] (λx=>#[Mx x]) (Mw w.heap.size) (λys=>ys=X.bB ks rows b old (ks.length - 1)) (λq=>q<+:X.bB ks rows b old (ks.length - 1)) (X.bB ks rows b old (ks.length - 1)).length w6:=by
  intro l Jv Jx W hW hJ _ hY h0;have LW:∀x∈pK pf w4.heap.size (w4.heap.size+1+1) (w4.heap.size+1) A b.length cb (.slice Ao no co),w.heap.size+2≤x.1∧W.heap[x.1]? =some x.2:=λx hx=>⟨(dM x hx).1,(hW.block x.1 (ai (dM x hx).2).1).trans (dM x hx).2⟩;have hWw:Below w.heap.size w W:=wN.trans (hW.mono wN.size);cases old with
  |none=>exact yM 5 (by omega) l h hF bC hO hcap hX dX aZ hold W hWw hJ LW h0 hY
  |some o=>exact yN 5 (by omega) l (yH o rfl) h hF bC hO hcap hX dX aZ hold W hWw hJ LW h0 hY
 have HST:=ae hst;have Cs:=ae hI6;clear hst hI6 h hX dM Lb wN hb4 Dk hF bC hO hcap dX aZ yH hold;generalize X.bB ks rows b old (ks.length - 1)=cl at HST⊢;have HQ:Hid (∀W,Wf w (X.dU cl) [] W→Below w.heap.size w W):=ae (λW h=>h.bel);generalize b.length=bn at*;refine callsIn_of_wp_marks Tryz.func56 rfl trivial ?_ rfl;simp only[Tryz.ntmps56,List.size_toArray,List.length_cons,List.length_nil,Nat.reduceAdd,Nat.reduceSub,Array.replicate_succ,Array.replicate_zero,List.push_toArray,List.append_toArray,List.nil_append,List.cons_append]
 gi_wp2_with fail
 refine⟨trivial,HS.out.mono ?_⟩;rintro e Y ⟨rfl,hY⟩;rw[Cr]at hY;subst hY;clear hw4 Cr HS HQ
 gi_wp2_with fail
 have OC:w.heap.size≤Y.heap.size:=Cs.out.bel.size;refine wpIn_rangeFunc_ownF rfl (by omega) (gf:=136) (lb:=#[.pointer (some ⟨w4.heap.size,0,none⟩), .pointer (some ⟨w4.heap.size+1+1,0,none⟩), .pointer (some ⟨w4.heap.size+1,0,none⟩)]) rfl trivial (enters_of Tryz.func136 (by kernel_rfl) rfl)
  HST.out Mw.t (λW l o o' hl h hc hw=>Qf w.heap.size Y OC W l o o' hl h hc hw) (ak _ _) (λ_=>rfl)
  (λpr W=>(∀y∈pr,y=true)∧Wf w [] (X.pL pr) W)
  (λc pr W=>c= .ret∧∃q,pr=q++[false]∧Wf w [50,50] (X.pL q) W)
  (OwnFrom.and (wM _ _) (tL _ _ OC))
  (λc pr W W' row h hg hr=>by
   obtain⟨h1,q,h2,h3⟩:=h;exact⟨h1,q,h2,tL (λ_=>X.pL q) _ OC () W W' row h3 hg hr⟩)
  ⟨(λ_ h=>by cases h),Cs.out⟩
  (λx=>{tmps:=#[.pointer (some ⟨pf,0,none⟩), .slice A bn cb, .slice Ao no co,undef,undef,undef, .pointer (some ⟨w.heap.size,0,none⟩), .pointer (some ⟨w.heap.size+1,0,none⟩),Mx x, .pointer (some ⟨pf,0,none⟩), .slice A bn cb, .slice Ao no co, .func (.func 136) #[] #[.pointer (some ⟨w4.heap.size,0,none⟩), .pointer (some ⟨w4.heap.size+1+1,0,none⟩), .pointer (some ⟨w4.heap.size+1,0,none⟩)],Mx x,undef,undef,undef],defers:=[]}) ?assign ?body ?done ?stop
 case assign=>
  intro l x W K hK
  gi_wp2
  exact hK
 case body=>
  rintro l pr x W ⟨vH,hI⟩ hlt;have h1:=hI.r.cell;have h2:=hI.s.cell;have z1:=hI.r.frozen;have z2:=hI.s.frozen;have HI:=ae hI;have HP:=ae vH;clear hI vH hlt;cases x
  ·gi_wp2
   exact⟨KeepsOthers.setCell _ _ _,rfl,pr,rfl,HI.out.r.set _,HI.out.s.other (by omega) _,HI.out.bel.setCell (aq _) _⟩
  ·gi_wp2
   refine⟨KeepsOthers.setCell _ _ _,Qg _ _ _ (.inr rfl) _,λy hy=> ?_,HI.out.r.other (by omega) _, ?_,HI.out.bel.setCell (by show w.heap.size≤w.heap.size+1;omega) _⟩
   ·rcases List.mem_append.1 hy with h|h
    ·exact HP.out y h
    ·simpa using h
   ·rw[X.Io];exact HI.out.s.set _
 case done=>
  rintro D ys W hD rfl ⟨vH,hI⟩ hK;have h1:=hI.r.cell;have h2:=hI.s.cell;have z1:=hI.r.frozen;have z2:=hI.s.frozen;have WN:Wf w (X.pL ys) (X.pL ys) (W.setCell ⟨w.heap.size,0,none⟩ (.string ⟨(X.pL ys).toArray⟩)):=⟨hI.r.set _,hI.s.other (by omega) _,hI.bel.setCell (aq _) _⟩;have hDD:w.heap.size+1<D:=av Cs.out.s.lt hD;have hK2:(W.setCell ⟨w.heap.size,0,none⟩ (.string ⟨(X.pL ys).toArray⟩)).heap[D]? =some (.deferred (some [])):=by
   rw[Below.heap_setCell _ _ _ D (by show D≠w.heap.size;omega)];exact hK
  have hall:=X.Ed vH;have GR:=ae WN;have WO:=ae hK2;have abK:=ae hall;clear hI WN hK2 hall vH
  gi_wp2
  refine⟨by simp, .inl ⟨_,_,rfl,run_takeDeferred WO.out, ?_⟩⟩;have hF:=tL (β:=Unit) (λ_=>X.pL ys) Y.heap.size OC () _ _ (some D) GR.out (grownBy_putObj' _ D (.deferred none)) (λr e=>by cases e;exact⟨hD,_,WO.out,rfl⟩);refine⟨_,pw rfl _ _ _ _ rfl Tryz.underlying9 hF.r.cell, ?_,hF.bel⟩;rw[abK.out]
 case stop=>
  rintro D c pr W hD KL ⟨rfl,q,rfl,hI⟩ hK;have hb:=X.Ef KL
  gi_wp2
  refine⟨by simp, .inl ⟨_,_,rfl,run_takeDeferred hK, ?_⟩⟩;have hF:=tL (β:=Unit) (λ_=>X.pL q) Y.heap.size OC () _ _ (some D) hI (grownBy_putObj' _ D (.deferred none)) (λr e=>by cases e;exact⟨hD,_,hK,rfl⟩);refine⟨_,pw rfl _ _ _ _ rfl Tryz.underlying9 hF.r.cell, ?_,hF.bel⟩;rw[hb]
theorem xn (h:At w0 p fs s w) (hF:(pf,ax p nm size g ks.length c f)∈fs) (bC:(g,ok)∈fs) (hO:bJ ok ks) (hcap:ks.length≤c) (hX:XF nm size ks rows ct s.now) (dX:Src w0 p fs (.slice A b.length cb) b) (aZ:X.bj ks size b=true) (yH:∀o,old=some o→X.bj ks size o.b=true) (hold:rP w0 p fs (.slice Ao no co) old):
  Calls Tryz.prog 56 #[.pointer (some ⟨pf,0,none⟩), .slice A b.length cb, .slice Ao no co] w λe w'=>e= .returned (.string ⟨(X.dU (X.bB ks rows b old (ks.length - 1))).toArray⟩)∧Below w.heap.size w w':=
 callsIn_wide.1 (My h hF bC hO hcap hX dX aZ yH hold)
end
end Go.Proofs.YtipljcmmokaokaaGreat
namespace Go.Proofs.YtipljcmmokaokaaGreat
open Go.RowKit Go.Lib Go.Maps Go.WideMaps Go.Sort
set_option maxRecDepth 100000
section
variable {w0 : World} {p pf g c size ct u : Nat} {nm : J.B} {ks : List X.Ky} {rows : List X.Row} {f : Fv} {w w' : World} {s s1 s2 : J.St} {fs : List (Nat × Obj)} {ok : Obj}
variable {old : List (J.B × J.B)}
structure Wh (w0:World) (p:Nat) (gs:List (Nat×Obj)) (s:J.St) (k:Nat) (W:World):Prop where
 at_:At w0 p gs (X.opened s (X.fz ((s.now.map (·.1)).take k)) (s.now.drop k)) W
 inv:J.Inv True (X.opened s (X.fz ((s.now.map (·.1)).take k)) (s.now.drop k))
theorem Mz (hs:X.pn u old s) {gs:List (Nat×Obj)} (h:At w0 p gs (X.opened s [] s.now) w):Wh w0 p gs s 0 w:=⟨h,X.mK hs⟩
theorem MA (hs:X.pn u old s) {gs:List (Nat×Obj)} {W:World} {k n:Nat} (h:Wh w0 p gs s k W) (hk:k<(s.now.map (·.1)).length) (dV:∀k∈s.now.map (·.1),k.length≤n) (hn:n≤300) (hm:s.now.length≤10000):
  Calls Tryz.prog 48 #[.pointer (some ⟨p,0,none⟩),encStr ((s.now.map (·.1))[k])] W λe w'=>e= .returned (.int .i64 0)∧Wh w0 p gs s (k+1) w':=by
 have Qh:k<s.now.length:=by simpa using hk
 have hd:s.now.drop k=s.now[k]::s.now.drop (k+1):=List.drop_eq_getElem_cons Qh;have nT:(s.now.map (·.1))[k]=(s.now[k]).1:=List.getElem_map _;have ht:(s.now.map (·.1)).take (k+1)=(s.now.map (·.1)).take k++[(s.now[k]).1]:=by rw[List.take_succ_eq_append_getElem hk,nT]
 have cd:(s.now[k]).1∈s.now.map (·.1):=List.mem_map_of_mem (List.getElem_mem Qh);have hlen:=X.qG ((s.now.map (·.1)).take k) 300 (λx hx=>aw (dV x (List.mem_of_mem_take hx)) hn);have VL:((s.now.map (·.1)).take k).length≤10000:=by rw[List.length_take,List.length_map];omega
 have hi:=h.inv;have ha:=h.at_;rw[hd]at hi ha;obtain⟨g1,g2⟩:=X.wR hs ((s.now.map (·.1)).take k) (s.now.drop (k+1)) s.now[k] hi (by omega);rw[nT];refine(at_delete ha (s.now[k]).1 (by have:=dV _ cd;omega) 0 g1).mono ?_;rintro e w' ⟨rfl,h2⟩;exact⟨rfl,⟨by rw[ht];exact h2,by rw[ht];exact g2⟩⟩
theorem Qi (hs:X.pn u old s) (hu:u≤340) {gs:List (Nat×Obj)} {W:World} {a:J.B} {v:Value} {n:Nat} (h:Wh w0 p gs s (s.now.map (·.1)).length W) (dV:∀k∈s.now.map (·.1),k.length≤n) (nA:nm.length≤100) (FL:(3+n)*s.now.length+9+nm.length+a.length≤11900) (Eh:a.length≤8192) (hv:Sl W bF v a):
  ∃s1,(Calls Tryz.prog 49 #[.pointer (some ⟨p,0,none⟩), .string ⟨(X.own nm).toArray⟩,v] W λe w'=>e= .returned (.int .i64 0)∧At w0 p gs s1 w')∧X.Tx u s s1 [(X.own nm,a)]∧s1=X.opened s (X.fz (s.now.map (·.1))++[⟨X.own nm,a,false⟩]) [(X.own nm,a)]:=by
 have hi:=h.inv;have ha:=h.at_;rw[List.take_length,List.length_map,List.drop_length]at hi ha;have hlen:=X.qG (s.now.map (·.1)) n dV;rw[List.length_map]at hlen;have Tm:=X.mz nm;have ho:X.own nm≠[]:=λe=>by rw[e]at Tm;simp at Tm
 obtain⟨g1,g2⟩:=X.wS hs hu (s.now.map (·.1)) (X.own nm) a hi ho (by omega) (by omega) (by omega);exact⟨_,ux ha rfl (X.own nm) a v ho (by omega) (by omega) hv 0 g1,g2,rfl⟩
theorem Ip {n:Nat} (hs:X.pn u old s) (hu:u≤340) (h:At w0 p fs (X.opened s [] s.now) w) (hf:(pf,ax p nm size g ks.length c f)∈fs) (bC:(g,ok)∈fs) (hO:bJ ok ks) (bY:X.eo ks size) (Bf Bo:Nat) (hF:(Bf,aO pf)∈fs) (hB:(Bo,aS ⟨(X.own nm).toArray⟩)∈fs) (nA:nm.length≤100)
  (hk:keysOf s.now ⟨(nm++[0]).toArray⟩=s.now.map (·.1)) (dV:∀k∈s.now.map (·.1),k.length≤n) (hn:n≤300) (FL:(3+n)*s.now.length+9+nm.length+(X.attr size ks).length≤11900):
  Calls Tryz.prog 46 #[.pointer (some ⟨Bf,0,none⟩), .pointer (some ⟨Bo,0,none⟩)] w λe w'=>(∃v,e= .returned v)∧At w0 p fs (X.opened s (X.fz (s.now.map (·.1))++[⟨X.own nm,X.attr size ks,false⟩]) [(X.own nm,X.attr size ks)]) w'∧
   X.Tx u s (X.opened s (X.fz (s.now.map (·.1))++[⟨X.own nm,X.attr size ks,false⟩]) [(X.own nm,X.attr size ks)]) [(X.own nm,X.attr size ks)]:=by
 have xP:s.now.length≤10000:=by
  have:=hs.many;omega
 have hrow:=h.get hf;have dM:=h.get hF;have iE:=λw1 (hb:Below w.heap.size w w1)=>(gX (h.below hb) ⟨(nm++[0]).toArray⟩ (show s.now.length≤1000000 by omega));rw[show(X.opened s [] s.now).now=s.now from rfl,hk]at iE;have gp:=ae iE;have pV:=ae h;have HF:=ae hf;have wj:=ae hF;have HBO:=ae hB;have fc:=ae dV;have HS:=ae hs;have HR:=ae hrow;have eH:=ae dM;have HU:=ae (λW=>uD nm W (by omega));have lY:=ae (λmQ t (hs:∀x∈fs,x∈mQ) W (hh:At w0 p mQ t W)=>pH nm size g c ks W (hO.2 W g (hh.get (hs _ bC))) bY);have HN:=ae hn;have JG:=ae nA;have Ss:=ae FL;have abL:Hid ((X.attr size ks).length≤8192):=ae (by rw[X.gg];have:=bY.one;omega);have HU2:=ae hu;have HML:=ae xP;generalize(⟨(nm++[0]).toArray⟩:ByteArray)=na at gp HU;clear h hf hF hB hk dV hs iE bC hO bY hn FL nA hu;go_enter Tryz.func46,Tryz.ntmps46;go_upto_region 0 with fail;refine aK (.rd 0 (.rd 1 (.rd 2 (.rd 3 (.rd 4 (.rd 5 (.rd 6 (.rd 7 (.rd 8 (.rd 12 (.wr 9 (.wr 10 (.rd 11 .fin))))))))))))) (λw'=>w'.heap[pf]? =some (ax p nm size g ks.length c f)∧w'.heap[Bf]? =some (aO pf)) (by kernel_rfl) (by kernel_rfl) (λc a d v w h=>by cases d<;>exact h) ⟨hrow,dM⟩ ?_;repeat
  refine az (v:= ?_) (by rfl) (by rfl) (λw' hS=> ?_) (λK hK=> ?_);rotate_left
  ·have hc:=aj w' pf hS.1;have hcb:=aj w' Bf hS.2;clear hS;go_simp;try with_reducible rfl
  go_simp;refine hK _ ?_;clear hK K
 refine wpPm_write (by rfl) (λK hK=> ?_);go_simp;refine(HU.out _).mono ?_;rintro e w1 ⟨rfl,wW⟩;subst wW;refine hK.out _ _ (λw'=>w'.heap[pf]? =some (ax p nm size g ks.length c f)∧w'.heap[Bf]? =some (aO pf)) (λ_ h=>h) ⟨hrow,dM⟩ ?_;clear hK K;refine wpPm_write (by rfl) (λK hK=> ?_);go_simp;refine(gp.out _ ((ak _ w).drew)).mono ?_;rintro e w1 ⟨A,rfl,hst,ha1,hb1,vE⟩;have XY:=ha1.get HF.out;have zl:=ha1.get wj.out;refine hK.out _ _ (λw'=>w'.heap[pf]? =some (ax p nm size g ks.length c f)∧w'.heap[Bf]? =some (aO pf)) (λ_ h=>h) ⟨XY,zl⟩ ?_;clear hK K;repeat
  refine az (v:= ?_) (by rfl) (by rfl) (λw' hS=> ?_) (λK hK=> ?_);rotate_left
  ·have hc:=aj w' pf hS.1;have hcb:=aj w' Bf hS.2;clear hS;go_simp;try with_reducible rfl
  go_simp;refine hK _ ?_;clear hK K
 show wpList _ _ _ _ _ _;obtain⟨gs,Hu,Sk,AY⟩:=xg (pV.out.below ((ak _ w).drew)) hb1 hst vE;have sM:=ae Hu;have HST:=ae AY;have sS:=ae (Mz HS.out Sk);have sB:(s.now.map (·.1)).length=s.now.length:=List.length_map ..;try rw[sB]
 have PD:=ae sB;clear hst ha1 hb1 vE Hu Sk AY XY zl hrow dM HR eH pV gp HU sB;go_wp2;go_loopw [16] (fun i W=>∃k:Nat,k≤s.now.length∧i= .int .i64 k∧Hid (Wh w0 p gs s k W)) (fun i _=>s.now.length - (intOf i).toNat)
 case atStart=>exact⟨0,Nat.zero_le _,rfl,sS⟩
 case round=>
  clear sS;obtain⟨k,hk,rfl,HI⟩:=hrel;by_cases hlt:k<s.now.length
  ·have Up:k<(s.now.map (·.1)).length:=(by rw[PD.out];exact hlt);obtain⟨g4,rfl,Cl,uP⟩:=HST.out _ _ HI.out.at_ (by omega);have ea:=uP k Up;have hc:=aj wr pf (HI.out.at_.get (sM.out _ HF.out));have hcb:=aj wr Bf (HI.out.at_.get (sM.out _ wj.out));have Ub:=ae (MA HS.out HI.out Up fc.out HN.out HML.out);have aW:=ae hlt;have eK:Hid (k≤1000000):=ae (by have:=HML.out;omega);generalize(s.now.map (·.1))[k]=ky at ea Ub;clear uP Cl HI Up;go_wp2_with fail;refine Ub.out.mono ?_;rintro e w3 ⟨rfl,hi⟩;have HI:=ae hi;clear hi Ub ea hc hcb;go_wp2;go_roundw
   case rel=>exact⟨k+1,aW.out,by first|exact bz k eK.out|exact bc k,HI⟩
   case measure=>first|exact bm aW.out eK.out|exact aX aW.out
  ·obtain rfl:k=s.now.length:=(by omega);have XY:=HI.out.at_.get (sM.out _ HF.out);have zl:=HI.out.at_.get (sM.out _ wj.out);have how:=HI.out.at_.get (sM.out _ HBO.out);go_upto_region 5 with fail;refine aD 10 (.rd 0 (.rd 1 (.rd 2 (.rd 3 (.rd 4 (.rd 5 (.rd 6 (.rd 7 (.rd 8 (.wr 9 .fin)))))))))) (λw'=>w'.heap[pf]? =some (ax p nm size g ks.length c f)∧w'.heap[Bf]? =some (aO pf)∧w'.heap[Bo]? =some (aS ⟨(X.own nm).toArray⟩)) (by kernel_rfl) (by kernel_rfl) (λc a d v w h=>by cases d<;>exact h) ⟨XY,zl,how⟩ ?_;repeat
    refine az (v:= ?_) (by rfl) (by rfl) (λw' hS=> ?_) (λK hK=> ?_);rotate_left
    ·have hc:=aj w' pf hS.1;have hcb:=aj w' Bf hS.2.1;have hco:=aj w' Bo hS.2.2;clear hS;go_simp;try with_reducible rfl
    go_simp;refine hK _ ?_;clear hK K
   refine wpPm_write (by rfl) (λK hK=> ?_);go_simp;refine(lY.out _ _ sM.out _ (HI.out.at_.below ((ak _ _).drew))).mono ?_;rintro e w4 ⟨v,rfl,hv,hb4⟩;have XZ:Wh w0 p gs s (s.now.map (·.1)).length w4:=(by rw[PD.out];exact⟨HI.out.at_.below (((ak _ wr).drew).trans hb4),HI.out.inv⟩);have eG:=Fw hv;obtain⟨s1,hput,pM,rfl⟩:=Qi HS.out HU2.out XZ fc.out JG.out Ss.out abL.out eG;refine hK.out _ _ (λw'=>w'.heap[pf]? =some (ax p nm size g ks.length c f)∧w'.heap[Bf]? =some (aO pf)∧w'.heap[Bo]? =some (aS ⟨(X.own nm).toArray⟩)) (λ_ h=>h) ⟨XZ.at_.get (sM.out _ HF.out),XZ.at_.get (sM.out _ wj.out),XZ.at_.get (sM.out _ HBO.out)⟩ ?_;clear hK K;have sP:=ae hput;have wh:=ae pM;clear hv hb4 XZ eG hput XY zl how HI pM;show wpList _ _ _ _ _ _;go_wp2_with fail;refine sP.out.mono ?_;rintro e w5 ⟨rfl,h5⟩;have H5:=ae (h5.less sM.out);clear h5 sP;go_wp2;go_end0;exact⟨⟨_,rfl⟩,H5.out,wh.out⟩
end
section
variable {w0 : World} {p pf g c size ct u : Nat} {nm : J.B} {ks : List X.Ky} {rows : List X.Row} {f : Fv} {w w' : World} {s s1 s2 : J.St} {fs : List (Nat × Obj)} {ok : Obj}
variable {old : List (J.B × J.B)}
theorem At.rX {F:Obj} (h:At w0 p ((pf,F)::fs) s w) (hf:∀x∈fs,x.1≠pf) (o:Obj):At w0 p ((pf,F)::(w.heap.size,o)::fs) s (w.alloc o)∧∀x∈(w.heap.size,o)::fs,x.1≠pf:=by
 have hl:pf<w.heap.size:=h.lt af;refine⟨(h.more o).less (λx hx=> ?_),λx hx=> ?_⟩
 ·rcases au hx with rfl|hx
  ·exact ag _ af
  ·rcases au hx with rfl|hx
   ·exact af
   ·exact ag _ (ag _ hx)
 ·rcases au hx with rfl|hx
  ·show w.heap.size≠pf;omega
  ·exact hf x hx
theorem Bx {F:Obj} {b b':Nat×Obj} (h:At w0 p ((pf,F)::b::b'::fs) s w):At w0 p ((pf,F)::fs) s w:=h.less (λx hx=>by
 rcases au hx with rfl|hx
 ·exact af
 ·exact ag _ (ag _ (ag _ hx)))
theorem SD {F:Obj} {b:Nat×Obj} (h:At w0 p ((pf,F)::b::fs) s w):At w0 p ((pf,F)::fs) s w:=h.less (λx hx=>by
 rcases au hx with rfl|hx
 ·exact af
 ·exact ag _ (ag _ hx))
theorem Iq (h:At w0 p ((pf,ax p nm size g ks.length c f)::fs) s w) (hf:∀x∈fs,x.1≠pf) (md:Nat) (hm:md<1∨4<md) (od:Bool):
  Calls Tryz.prog 12 #[.pointer (some ⟨pf,0,none⟩), .int .u8 (md:Nat), .bool od] w λe w'=>e= .returned (.string ⟨#[51,48]⟩)∧At w0 p ((pf,ax p nm size g ks.length c f)::fs) s w':=by
 obtain⟨hB,_⟩:=h.rX hf (aO pf);have HR:=ae (fL (hB.get af));have HB:=ae (SD hB);clear h hf hB;by_cases h1:md<1
 ·have m1:(md:Int)<1:=(by omega);clear hm;go_enter Tryz.func12,Tryz.ntmps12;go_wp2_with fail;refine HR.out.mono ?_;rintro e w1 ⟨rfl,hw⟩;subst hw;clear HR;go_wp2;go_ret;exact⟨rfl,HB.out⟩
 ·have m1:¬(md:Int)<1:=(by omega);have m2:(4:Int)<(md:Nat):=(by omega);clear hm;go_enter Tryz.func12,Tryz.ntmps12;go_wp2_with fail;refine HR.out.mono ?_;rintro e w1 ⟨rfl,hw⟩;subst hw;clear HR;go_wp2;go_ret;exact⟨rfl,HB.out⟩
theorem wm (h:At w0 p ((pf,ax p nm size g ks.length c f)::fs) s w) (hf:∀x∈fs,x.1≠pf) (ho:s.opn=false) (md:Nat) (pJ:1≤md∧md≤4) (od:Bool) (gB:f.mode≠0):
  Calls Tryz.prog 12 #[.pointer (some ⟨pf,0,none⟩), .int .u8 (md:Nat), .bool od] w λe w'=>e= .returned (.string ⟨#[52,49]⟩)∧At w0 p ((pf,ax p nm size g ks.length c f)::fs) (J.cA (J.cM s)) w':=by
 have Ju:((f.mode:Int) !=0)=true:=by simp;omega
 have hm1:¬f.mode=0:=gB;obtain⟨hB,hf2⟩:=h.rX hf (aO pf);have HR:=ae (fL (hB.get af));have HI:=ae (wV hB af ho);have AQ:=ae hf2;have m1:¬(md:Int)<1:=by omega
 have m2:¬(4:Int)<(md:Nat):=by omega
 clear h hf ho hB hf2 pJ;go_enter Tryz.func12,Tryz.ntmps12;go_wp2_with fail;refine HR.out.mono ?_;rintro e w1 ⟨rfl,hw⟩;subst hw;clear HR;go_wp2_with fail;refine HI.out.mono ?_;rintro e w2 ⟨rfl,ha⟩;have HA:=ae ha;have hc:=aj w2 pf (ha.get af);have dM:=aj w2 w.heap.size (ha.get (ag _ af));clear ha HI;go_wp2;go_ret;exact⟨rfl,SD HA.out⟩
end
end Go.Proofs.YtipljcmmokaokaaGreat
