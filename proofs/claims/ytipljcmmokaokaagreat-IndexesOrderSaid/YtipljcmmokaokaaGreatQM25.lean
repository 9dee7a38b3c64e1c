import Derived.Test.YtipljcmmokaokaaGreatQM22
set_option linter.unusedVariables false
set_option linter.unusedSimpArgs false
set_option maxHeartbeats 4000000
namespace Go.Proofs.YtipljcmmokaokaaGreat
open Go.RowKit Go.Lib Go.Maps Go.WideMaps Go.Sort
set_option maxRecDepth 100000
section
variable {w0 : World} {p pf g c size ct u : Nat} {nm : J.B} {ks : List X.Ky} {rows : List X.Row} {f : Fv} {w w' : World} {s s1 s2 : J.St} {fs : List (Nat × Obj)} {ok : Obj}
variable {b : J.B} {old : Option X.Row} {now : List (J.B × J.B)}
theorem EO {B:Nat} {v:ByteArray} (h:w.heap[B]? =some (aD v)):yG w B:=by
 refine⟨fun o u v hh=> ?_,fun⟨_,cur,fr,e⟩=> ?_⟩
 ·rw[cell_of_row w B o _ _ _ h,cell_of_row w B (o+1) _ _ _ h]at hh;obtain⟨h1,h2⟩:=hh;rcases o with _|o<;>simp at h1 h2
 ·rw[h]at e;injection e with e;injection e with e1 e2;exact absurd e2 (by decide)
theorem At.xy {B:Nat} {v:ByteArray} (h:At w0 p ((B,aD v)::fs) s w) (hf:∀x∈fs,x.1≠B) (ht:J.Two s) (v':ByteArray):At w0 p ((B,aD v')::fs) s (w.setCell ⟨B,0,none⟩ (.string v')):=
 h.turn hf ht (EO (h.get ae)) (ay (World.grownBy.refl w (some B)) 0 _) (aC (h.get ae) 0 _)
theorem At.lt (h:At w0 p fs s w) {x:Nat×Obj} (hx:x∈fs):x.1<w.heap.size:=(ah (h.get hx)).1
theorem Ip {chs:List J.cn} {Dd:List X.Row} {Sz:Nat} (hs:X.pg u s.now s) (hu:u≤340) (hk:X.fQ ks size) (hT:X.Aj s chs now 11900) (hc:X.ln nm (X.attr size ks) ks Dd Sz now) (hr:X.aS ks size Sz Dd) (sy:Sz<1000001) (hl:Dd.length≤u+1):X.Tx u s (X.opened s chs now) now:=by
 refine X.Mi hs hu chs hT.inv (fun b st at_ hh=>X.rS hs _ _ hh) ⟨by rcases hT.mn with e|e;cases e;exact e,hT.len⟩ ?_;have h1:=hk.one;have h2:=hc.count hr (by omega) h1.1 (by omega);have h3:ks.length*Dd.length≤8*(u+1):=Nat.mul_le_mul h1.2 hl;have h4:(if 0<Sz then 1 else 0)≤1:=by split<;>omega
 omega
theorem oN {s1:J.St} (h:X.Tx u s s1 now):∀gs w1,At w0 p gs s1 w1→∃k:Int,Calls Tryz.prog 98 #[.pointer (some ⟨p,0,none⟩)] w1 fun e w'=>e= .returned (.tuple #[.int .i64 k, .int .i64 0])∧At w0 p gs (J.aI s1) w':=
 fun _ _ h1=>⟨_,DW h1 h.opn h.sp h.cs h.cm h.ar h.fit _ _ h.com⟩
theorem EP (h:At w0 p fs (X.opened s [] s.now) w) (hF:(pf,av p nm size g ks.length c f)∈fs) (bq:(g,ok)∈fs) (hO:bI ok ks) (hcap:ks.length≤c) (Bf Bp Bb Bo:Nat) (A:Option Addr) (cb:Nat) (vo:Value)
  (yE:(Bf,aB pf)∈fs) (yF:(Bp,aD ⟨(X.val ks 0 b).toArray⟩)∈fs) (Ez:(Bb,aW (.slice A b.length cb))∈fs) (Ms:(Bo,aW vo)∈fs)
  (hX:XF nm size ks rows ct s.now) (hT:X.Aj s [] s.now 0) (gQ:Src w0 p fs (.slice A b.length cb) b) (aT:X.bg ks size b=true) (eh:rows.find? (fun r=>decide (X.val ks 0 r.b=X.val ks 0 b))=old) (hold:qz w0 p fs vo old):
  Calls Tryz.prog 106 #[.pointer (some ⟨Bf,0,none⟩), .pointer (some ⟨Bp,0,none⟩), .pointer (some ⟨Bb,0,none⟩), .pointer (some ⟨Bo,0,none⟩)] w fun e w'=>(∃v,e= .returned v)∧∃chs now,Fz w0 p fs s nm size ks ct rows b old (ks.length - 1) chs now w':=by
 cases old with
 |none=>exact EH h hF bq hO hcap Bf Bp Bb Bo A cb vo yE yF Ez Ms hX hT gQ aT eh hold
 |some o=>exact EI h hF bq hO hcap Bf Bp Bb Bo A cb vo yE yF Ez Ms hX hT gQ aT eh hold
theorem KQ {gs:List (Nat×Obj)} {B:Nat} {pv:ByteArray} {W:World} (h:At w0 p ((B,aD pv)::gs) s W) (A:Option Addr) (cb:Nat) (Ao:Option Addr) (no co:Nat) (Ex:∀x∈((w.heap.size+1+1,aW (.slice Ao no co))::(w.heap.size+1,aW (.slice A b.length cb))::(w.heap.size,aB pf)::(pf,av p nm size g ks.length c f)::fs),x∈gs) (bq:(g,ok)∈fs) (hO:bI ok ks) (hcap:ks.length≤c) (pR:(⟨(X.val ks 0 b).toArray⟩:ByteArray)=pv)
  (l6:X.pg u s.now s) (hu:u≤340) (hX:XF nm size ks rows ct s.now) (gQ:Src w0 p fs (.slice A b.length cb) b) (aT:X.bg ks size b=true) (eh:rows.find? (fun r=>decide (X.val ks 0 r.b=X.val ks 0 b))=old) (hold:qz w0 p fs (.slice Ao no co) old)
  (Ak:X.aS ks size (ct+1) (X.ki ks ct rows b old)) (hro:rows.length≤u):
  Calls Tryz.prog 45 #[.pointer (some ⟨pf,0,none⟩), .func (.func 106) #[] #[.pointer (some ⟨w.heap.size,0,none⟩), .pointer (some ⟨B,0,none⟩), .pointer (some ⟨w.heap.size+1,0,none⟩), .pointer (some ⟨w.heap.size+1+1,0,none⟩)]] W fun e w'=>e= .returned (.string ⟨#[48,48]⟩)∧
   ∃s1 now,At w0 p ((pf,av p nm size g ks.length c f)::fs) (J.aI s1) w'∧X.Tx u s s1 now∧X.ln nm (X.attr size ks) ks (X.ki ks ct rows b old) (ct+1) now:=by
 subst pR;have ie:∀x∈((w.heap.size+1+1,aW (.slice Ao no co))::(w.heap.size+1,aW (.slice A b.length cb))::(w.heap.size,aB pf)::(pf,av p nm size g ks.length c f)::fs),x∈(B,aD ⟨(X.val ks 0 b).toArray⟩)::gs:=fun x hx=>af _ (Ex x hx);have zz:∀x∈fs,x∈(B,aD ⟨(X.val ks 0 b).toArray⟩)::gs:=fun x hx=>ie x (af _ (af _ (af _ (af _ hx))));have QK:qz w0 p ((B,aD ⟨(X.val ks 0 b).toArray⟩)::gs) (.slice Ao no co) old:=by
  cases old with
  |none=>exact hold
  |some o=>exact⟨hold.1,hold.2.more zz⟩
 refine(nh (f:=f) (nm:=nm) (size:=size) (g:=g) (ks:=ks) (c:=c) h (ie _ (af _ (af _ (af _ ae)))) l6.opn 106 _ (enters_of Tryz.func106 (by kernel_rfl) rfl) (fun s1=>∃now,X.Tx u s s1 now∧X.ln nm (X.attr size ks) ks (X.ki ks ct rows b old) (ct+1) now)
  (fun w1 ha=> ?_) (fun s1 w1 ha hR=> ?_)).mono ?_
 ·refine(EP (by rw[X.qm]at ha;exact ha) (f:=f) (ie _ (af _ (af _ (af _ ae)))) (zz _ bq) hO hcap w.heap.size B (w.heap.size+1) (w.heap.size+1+1) A cb (.slice Ao no co) (ie _ (af _ (af _ ae))) ae (ie _ (af _ ae)) (ie _ ae) hX ⟨X.nb l6,by simp[J.encs], .inl rfl⟩ (gQ.more zz) aT eh QK).mono ?_;rintro e w' ⟨hv,chs,now,hI⟩;have h1:=hX.ks.one;have hcon:=X.Kj (j:=ks.length - 1) (by omega) hX.rows aT hI.mix;refine⟨hv,_,hI.at_,now,Ip l6 hu hX.ks ⟨hI.tx.inv,by have:=hI.tx.len;omega, .inr (hI.tx.mn.resolve_left (by omega))⟩ hcon Ak (by have:=hX.ct;omega) ?_,hcon⟩;have:=X.za ks ct rows b old;omega
 ·obtain⟨now,hx,_⟩:=hR;exact oN hx _ _ ha
 ·rintro e w' ⟨rfl,s1,ha,now,hx,hc⟩;exact⟨rfl,s1,now,ha.less (fun x hx=>ie x (by
   rcases ak hx with rfl|hx
   ·exact(af _ (af _ (af _ ae)))
   ·exact(af _ (af _ (af _ (af _ hx)))))),hx,hc⟩
theorem zA (h:At w0 p ((pf,av p nm size g ks.length c f)::fs) s w) (hf:∀x∈fs,x.1≠pf) (bq:(g,ok)∈fs) (hO:bI ok ks) (hcap:ks.length≤c) (A:Option Addr) (cb:Nat) (Ao:Option Addr) (no co:Nat)
  (l6:X.pg u s.now s) (hu:u≤340) (hX:XF nm size ks rows ct s.now) (gQ:Src w0 p fs (.slice A b.length cb) b) (aT:X.bg ks size b=true) (eh:rows.find? (fun r=>decide (X.val ks 0 r.b=X.val ks 0 b))=old) (hold:qz w0 p fs (.slice Ao no co) old)
  (Ak:X.aS ks size (ct+1) (X.ki ks ct rows b old)) (hro:rows.length≤u):
  Calls Tryz.prog 58 #[.pointer (some ⟨pf,0,none⟩), .slice A b.length cb, .slice Ao no co] w fun e w'=>e= .returned (.string ⟨#[48,48]⟩)∧
   ∃s1 now,At w0 p ((pf,av p nm size g ks.length c f)::fs) (J.aI s1) w'∧X.Tx u s s1 now∧X.ln nm (X.attr size ks) ks (X.ki ks ct rows b old) (ct+1) now:=by
 have hA:=((h.more (aB pf)).more (aW (.slice A b.length cb))).more (aW (.slice Ao no co));rw[World.size_alloc,World.size_alloc]at hA;have HA:=aa hA;have aN:=hX.ks.one;have CT:0<ks.length:=by omega
 have uA:=(X.aM.1 aT).2 _ (X.aR CT);have hbl:=(X.aM.1 aT).1;have hsz:=hX.ks.size;have HV:=aa (fun lh t (hs:∀x∈fs,x∈lh) w1 (hh:At w0 p lh t w1)=>bD (X.aF ks 0) (.slice A b.length cb) b bL w1 (gQ _ _ _ hs hh) uA (by omega));have hv0:(X.aF ks 0).val b=X.val ks 0 b:=rfl;rw[hv0]at HV;have gY:=aa (fun lh (hs:∀x∈((w.heap.size+1+1,aW (.slice Ao no co))::(w.heap.size+1,aW (.slice A b.length cb))::(w.heap.size,aB pf)::(pf,av p nm size g ks.length c f)::fs),x∈lh) w1 (hh:At w0 p lh s w1)=>(⟨hh.get (hs _ (af _ (af _ (af _ ae)))),hh.get (hs _ (af _ (af _ ae))),hh.get (hs _ (af _ ae)),hO.2 w1 g (hh.get (hs _ (af _ (af _ (af _ (af _ bq))))))⟩:w1.heap[pf]? =some (av p nm size g ks.length c f)∧w1.heap[w.heap.size]? =some (aB pf)∧w1.heap[w.heap.size+1]? =some (aW (.slice A b.length cb))∧eY w1 g ks));have HU:=aa (fun B pv W (hh:At w0 p ((B,aD pv)::((w.heap.size+1+1,aW (.slice Ao no co))::(w.heap.size+1,aW (.slice A b.length cb))::(w.heap.size,aB pf)::(pf,av p nm size g ks.length c f)::fs)) s W) pR=>KQ (w:=w) hh A cb Ao no co (fun _ hx=>hx) bq hO hcap pR l6 hu hX gQ aT eh hold Ak hro);have HT:=aa l6.two;have HN:=aa (fun W (hh:At w0 p ((w.heap.size+1+1,aW (.slice Ao no co))::(w.heap.size+1,aW (.slice A b.length cb))::(w.heap.size,aB pf)::(pf,av p nm size g ks.length c f)::fs) s W)=>(fun x hx e=>by have:=hh.lt hx;omega:∀x∈((w.heap.size+1+1,aW (.slice Ao no co))::(w.heap.size+1,aW (.slice A b.length cb))::(w.heap.size,aB pf)::(pf,av p nm size g ks.length c f)::fs),x.1≠W.heap.size));generalize pR:(⟨(X.val ks 0 b).toArray⟩:ByteArray)=pv at HV;have kn:=aa pR;have WC:Hid (∀x∈fs,x∈((w.heap.size+1+1,aW (.slice Ao no co))::(w.heap.size+1,aW (.slice A b.length cb))::(w.heap.size,aB pf)::(pf,av p nm size g ks.length c f)::fs)):=aa (fun x hx=>(af _ (af _ (af _ (af _ hx)))));clear h hf bq hO hcap l6 hu hX gQ aT eh hold Ak hro hA aN uA hbl hsz hv0 pR;go_enter Tryz.func58,Tryz.ntmps58;go_upto_region 1 with fail;refine aA 10 (.rd 0 (.rd 1 (.rd 2 (.rd 3 (.rd 4 (.rd 5 (.rd 6 (.rd 7 (.two 8 (.wr 9 .fin) 9 (.wr 8 .fin)))))))))) (fun w'=>At w0 p ((w.heap.size+1+1,aW (.slice Ao no co))::(w.heap.size+1,aW (.slice A b.length cb))::(w.heap.size,aB pf)::(pf,av p nm size g ks.length c f)::fs) s w') (by kernel_rfl) (by kernel_rfl) (fun c a d v w h=>by cases d<;>exact h) (HA.out.below ((ai _ _).drew)) ?_;repeat
  refine aw (v:= ?_) (by rfl) (by rfl) (fun w' hS=> ?_) (fun K hK=> ?_);rotate_left
  ·obtain⟨r1,r2,r3,r4⟩:=gY.out _ (fun _ hx=>hx) w' hS;have hc1:=fun j=>ag w' pf j _ _ _ r1;have hc2:=fun j=>ag w' w.heap.size j _ _ _ r2;have hc3:=fun j=>ag w' (w.heap.size+1) j _ _ _ r3;have k1:=r4.at_ CT;have k2:=r4.len CT;have k3:=r4.dup CT;rw[Nat.zero_mul]at k1 k2 k3;clear r1 r2 r3 r4;clear hS;go_simp;try with_reducible rfl
  go_simp;refine hK _ ?_;clear hK K
 refine bJ (by rfl) (by rfl) (fun K hK=> ?_) (fun K hK=> ?_)
 ·go_simp;refine(HV.out _ _ WC.out _ (HA.out.below ((ai _ _).drew))).mono ?_;rintro e V1 ⟨rfl,hb⟩;have cH:=aa ((HA.out.below ((ai _ _).drew)).below hb);refine hK.out _ _ (fun w'=>At w0 p ((w.heap.size+1+1,aW (.slice Ao no co))::(w.heap.size+1,aW (.slice A b.length cb))::(w.heap.size,aB pf)::(pf,av p nm size g ks.length c f)::fs) s w') (fun _ h=>h) cH.out ?_;clear hK K hb;refine wpPm_write (by rfl) (fun K hK=> ?_);go_simp;refine hK.out _ _ (fun w'=>At w0 p ((w.heap.size+1+1,aW (.slice Ao no co))::(w.heap.size+1,aW (.slice A b.length cb))::(w.heap.size,aB pf)::(pf,av p nm size g ks.length c f)::fs) s w') (fun _ h=>h) (cH.out.below ((ai _ V1).alloc (aj _) _)) ?_;clear hK K;have pP:=cH.out.more (aD pv);have QL:=aa (HU.out _ _ _ pP kn.out);have Un:=(ag (V1.alloc (aD pv)) w.heap.size 0 _ _ _ (pP.get (af _ (af _ (af _ ae)))));clear pP HU;show wpList _ _ _ _ _ _;go_wp2_with fail;refine QL.out.mono ?_;rintro e W9 ⟨rfl,hr⟩;have HR:=aa hr;clear hr QL Un;go_wp2;go_ret;exact⟨rfl,HR.out⟩
 ·go_simp;refine hK.out _ _ (fun w'=>At w0 p ((w.heap.size+1+1,aW (.slice Ao no co))::(w.heap.size+1,aW (.slice A b.length cb))::(w.heap.size,aB pf)::(pf,av p nm size g ks.length c f)::fs) s w') (fun _ h=>h) ((HA.out.below ((ai _ _).drew)).below ((ai _ _).alloc (aj _) _)) ?_;clear hK K;refine wpPm_write (by rfl) (fun K hK=> ?_);go_simp;have cH:=aa ((HA.out.below ((ai _ _).drew)).more (aD ⟨#[]⟩));have Mx:=aa (HN.out _ (HA.out.below ((ai _ _).drew)));refine(HV.out _ _ (fun x hx=>af _ (WC.out x hx)) _ cH.out).mono ?_;rintro e V1 ⟨rfl,hb⟩;have bB:=aa (cH.out.below hb);refine hK.out _ _ (fun w'=>At w0 p ((w.heap.size+1+1,aW (.slice Ao no co))::(w.heap.size+1,aW (.slice A b.length cb))::(w.heap.size,aB pf)::(pf,av p nm size g ks.length c f)::fs) s w') (fun _ h=>h) (bB.out.less (fun x hx=>af _ hx)) ?_;clear hK K hb;have xz:(((w.alloc (aB pf)).alloc (aW (.slice A b.length cb))).alloc (aW (.slice Ao no co))).drew.heap.size=w.heap.size+1+1+1:=(by simp);rw[xz]at bB Mx;have pP:=bB.out.xy (Mx.out) HT.out pv;have QL:=aa (HU.out _ _ _ pP kn.out);have gX:=(ag V1 (w.heap.size+1+1+1) 0 _ _ _ (bB.out.get ae));have Mv:=az (bB.out.get ae);have Un:=(ag (V1.setCell ⟨(w.heap.size+1+1+1),0,none⟩ (.string pv)) w.heap.size 0 _ _ _ (pP.get (af _ (af _ (af _ ae)))));clear pP HU;show wpList _ _ _ _ _ _;go_wp2_with fail;refine QL.out.mono ?_;rintro e W9 ⟨rfl,hr⟩;have HR:=aa hr;clear hr QL gX Mv Un;go_wp2;go_ret;exact⟨rfl,HR.out⟩
end
namespace X
def uE (ks:List Ky) (rows:List Row) (i:Nat) (b:J.B) (old:Option Row):Bool:= !keeps ks i b old&&rows.any fun r=>decide (val ks i r.b=val ks i b)
def bA (ks:List Ky) (rows:List Row) (b:J.B) (old:Option Row) (j:Nat):List Bool:=((List.range' 1 j).filter fun i=>uE ks rows i b old).map fun i=>(aF ks i).dup
theorem uF {ks:List Ky} {rows:List Row} {b:J.B} {old:Option Row} {j:Nat} (h:uE ks rows (j+1) b old=true):bA ks rows b old (j+1)=bA ks rows b old j++[(aF ks (j+1)).dup]:=by
 unfold bA;rw[List.range'_1_concat,List.filter_append,List.map_append];simp[Nat.add_comm 1 j,h]
theorem rE {ks:List Ky} {rows:List Row} {b:J.B} {old:Option Row} {j:Nat} (h:uE ks rows (j+1) b old=false):bA ks rows b old (j+1)=bA ks rows b old j:=by
 unfold bA;rw[List.range'_1_concat,List.filter_append,List.map_append];simp[Nat.add_comm 1 j,h]
theorem nw (ks:List Ky) (rows:List Row) (b:J.B) (old:Option Row) (j d:Nat):bA ks rows b old j<+:bA ks rows b old (j+d):=by
 unfold bA;have:List.range' 1 (j+d)=List.range' 1 j++List.range' (1+j) d:=(List.range'_append_1 ..).symm;rw[this,List.filter_append,List.map_append];exact List.prefix_append _ _
end X
def Iq (b0:Nat) (W W':World):Prop:=Below b0 W W'∧Bh (fun _ j=>j=b0∨j=b0+1) W W'
theorem Iq.t {b0:Nat} {A B C:World} (h:Iq b0 A B) (k:Iq b0 B C):Iq b0 A C:=⟨h.1.trans k.1,h.2.t k.2⟩
structure AB (w0:World) (p:Nat) (fs:List (Nat×Obj)) (s:J.St) (w1 W:World):Prop where
 at_:At w0 p fs s W
 bel:Below w1.heap.size w1 W
theorem AB.below {w0 w1 W W':World} {p:Nat} {fs:List (Nat×Obj)} {s:J.St} (h:AB w0 p fs s w1 W) (hb:Below W.heap.size W W'):AB w0 p fs s w1 W':=⟨h.at_.below hb,h.bel.trans (hb.mono h.bel.size)⟩
abbrev Ir (x:Bool):Value:= .bool x
section
variable {w0 : World} {p pf g c size ct u : Nat} {nm : J.B} {ks : List X.Ky} {rows : List X.Row} {f : Fv} {w w' : World} {s s1 s2 : J.St} {fs : List (Nat × Obj)} {ok : Obj}
variable {b : J.B} {old : Option X.Row} {A : Option Addr} {cb Bf Bo Bb : Nat} {vo : Value} {Jv Jx : List Bool → World → Prop}
abbrev pI (pf Bf Bo Bb:Nat) (A:Option Addr) (n cb:Nat) (vo:Value):List (Nat×Obj):=[(Bf,aB pf),(Bo,aW vo),(Bb,aW (.slice A n cb))]
structure sB (w:World) (ks:List X.Ky) (rows:List X.Row) (b:J.B) (old:Option X.Row) (pf Bf Bo Bb:Nat) (A:Option Addr) (cb:Nat) (vo:Value) (Jv:List Bool→World→Prop) (k:Nat) (W:World):Prop where
 j:Jv (X.bA ks rows b old k) W
 bel:Below w.heap.size w W
 bx:∀x∈pI pf Bf Bo Bb A b.length cb vo,w.heap.size+2≤x.1∧W.heap[x.1]? =some x.2
theorem sB.at_ {k:Nat} (h:sB w ks rows b old pf Bf Bo Bb A cb vo Jv k w') (ha:At w0 p fs s w):At w0 p (pI pf Bf Bo Bb A b.length cb vo++fs) s w':=
 ha.add h.bel (fun x hx=>⟨by have:=(h.bx x hx).1;omega,(h.bx x hx).2⟩)
theorem sB.step {k j:Nat} {W0 W1:World} (h:sB w ks rows b old pf Bf Bo Bb A cb vo Jv k w') (hb:Below w'.heap.size w' W1) (hJ:AbidesFrom W0.heap.size Jv) (hl:X.bA ks rows b old j=X.bA ks rows b old k):sB w ks rows b old pf Bf Bo Bb A cb vo Jv j W1:=
 ⟨by rw[hl];exact hJ _ w' W1 none h.j (oh hb) (fun r e=>by cases e),h.bel.trans (hb.mono h.bel.size),fun x hx=>⟨(h.bx x hx).1,(hb.block x.1 (ah (h.bx x hx).2).1).trans (h.bx x hx).2⟩⟩
theorem sB.go {k j:Nat} {W1:World} (h:sB w ks rows b old pf Bf Bo Bb A cb vo Jv k w') (hk:Iq w.heap.size w' W1) (hj:Jv (X.bA ks rows b old j) W1):sB w ks rows b old pf Bf Bo Bb A cb vo Jv j W1:=
 ⟨hj,h.bel.trans hk.1,fun x hx=>⟨(h.bx x hx).1,hk.2.1 _ _ (h.bx x hx).2 (by simp only[pI,List.mem_cons,List.not_mem_nil,or_false]at hx;rcases hx with rfl|rfl|rfl<;>rfl) (fun hc=>by have:=(h.bx x hx).1;omega)⟩⟩
theorem xA (n:Nat) (hn:1≤n) (l:Nat) (h:At w0 p fs s w) (hF:(pf,av p nm size g ks.length c f)∈fs) (bq:(g,ok)∈fs) (hO:bI ok ks) (hcap:ks.length≤c) (hX:XF nm size ks rows ct s.now) (gQ:Src w0 p fs (.slice A b.length cb) b) (aT:X.bg ks size b=true) (hold:qz w0 p fs vo none)
  (W:World) (hW:Below w.heap.size w W) (hJ:AbidesFrom W.heap.size Jv) (b6:∀x∈pI pf Bf Bo Bb A b.length cb vo,w.heap.size+2≤x.1∧W.heap[x.1]? =some x.2) (h0:Jv [] W)
  (hY:∀xs x W,Jv xs W→xs.length<(X.bA ks rows b none (ks.length - 1)).length→YieldAt Fence.wide (n - 1) Tryz.prog l #[Ir x] W fun e W'=>(e= .returned (.bool true)∧Jv (xs++[x]) W'∧Iq w.heap.size W W')∨(e= .returned (.bool false)∧Jx (xs++[x]) W')):
  CallsIn Fence.wide n Tryz.prog 136 #[.func (.yield l) #[] #[], .pointer (some ⟨Bf,0,none⟩), .pointer (some ⟨Bo,0,none⟩), .pointer (some ⟨Bb,0,none⟩)] W fun e W'=>(∃v,e= .returned v)∧
   ((∃ys,ys=X.bA ks rows b none (ks.length - 1)∧Jv ys W')∨(∃q,q<+:X.bA ks rows b none (ks.length - 1)∧Jx q W')):=by
 obtain rfl:vo= .slice none 0 0:=hold;have aN:=hX.ks.one;obtain⟨A',kz,hA'⟩:=jL g ks.length c aN.1 hcap;have ib:=aa (⟨h0,hW,b6⟩:sB w ks rows b none pf Bf Bo Bb A cb (.slice none 0 0) Jv 0 W);have hat:=ib.out.at_ h;have hc1:=fun j=>ag W pf j _ _ _ (hat.get (List.mem_append_right _ hF));have hc2:=fun j=>ag W Bf j _ _ _ (b6 (Bf,aB pf) ae).2;have NV:=aa hA';have HX:=aa hX;have lH:=aa aT;have xn:=aa gQ;have HF:=aa hF;have oM:=aa bq;have HO:=aa hO;have HA:=aa h;have cP:=aa aN;have HY:=aa hY;have HJ:=aa hJ;have FC:=aa (show b.length≤4096 by have h1:=(X.aM.1 aT).1;have h2:=hX.ks.size;omega);have BU:=aa (X.aM.1 aT).2;clear h hF bq hO hcap hX gQ aT hW hJ b6 h0 hY aN hA' hat;refine callsIn_of_wp Tryz.func136 rfl trivial ?_ rfl;simp only[Tryz.ntmps136,List.size_toArray,List.length_cons,List.length_nil,Nat.reduceAdd,Nat.reduceSub,Array.replicate_succ,Array.replicate_zero,List.push_toArray,List.append_toArray,List.nil_append,List.cons_append]
 gi_wp2
 clear hc1 hc2 kz
 gi_loopw [17] (fun t W=>∃k:Nat,k≤ks.length - 1∧t= .int .i64 k∧Hid (sB w ks rows b none pf Bf Bo Bb A cb (.slice none 0 0) Jv k W)) (fun t _=>ks.length - 1 - (intOf t).toNat)
 case atStart=>exact⟨0,Nat.zero_le _,rfl,ib⟩
 case round=>
  clear ib;obtain⟨k,hk,rfl,HI⟩:=hrel;by_cases hlt:k<ks.length - 1
  ·have jB:k+1<ks.length:=(by omega);have kV:=aa jB;have a7:=aa hlt;have iD:Hid (k≤1000000):=aa (by have:=cP.out;omega);have e1:A'=some ⟨g,3,none⟩:=NV.out (by omega);subst e1;have hat:=HI.out.at_ HA.out;have bh:=HO.out.2 wr g (hat.get (List.mem_append_right _ oM.out));have k1:=bh.at_ jB;have k2:=bh.len jB;have k3:=bh.dup jB;rw[show(k+1)*3=3+k*3 by omega]at k1 k2 k3;have EA:(k:Int)<((ks.length - 1:Nat):Int):=(by omega);have HZ:=aa (heap_alloc_new wr dz);have uG:=aa hat;clear bh jB hat
   gi_upto_region 2 with fail
   refine wpIn_wide.2 ?_;go_wp2_with (refine wpList_store_row rfl _ _ 66 rfl wr.heap.size rfl _ rfl _ _ HZ.out rfl (by kernel_rfl) rfl ?_);intro W2 hrow hg hsz;obtain⟨ha2,hb2⟩:=uG.out.stored dz hg;have hrow:W2.heap[wr.heap.size]? =some (aK (X.aF ks (k+1))):=hrow;have kC:=uG.out.add hb2 (gs:=[(wr.heap.size,aK (X.aF ks (k+1)))]) (fun x hx=>by simp only[List.mem_singleton]at hx;subst hx;exact⟨aj _,hrow⟩);generalize KA:wr.heap.size=Bk at kC hrow⊢;have bH:Hid (AB w0 p ((Bk,aK (X.aF ks (k+1)))::(pI pf Bf Bo Bb A b.length cb (.slice none 0 0)++fs)) s wr W2):=aa ⟨kC,hb2⟩;have gY:Hid (∀W1,At w0 p ((Bk,aK (X.aF ks (k+1)))::(pI pf Bf Bo Bb A b.length cb (.slice none 0 0)++fs)) s W1→W1.heap[pf]? =some (av p nm size g ks.length c f)∧W1.heap[Bf]? =some (aB pf)∧W1.heap[Bo]? =some (aW (.slice none 0 0))∧W1.heap[Bb]? =some (aW (.slice A b.length cb))∧W1.heap[Bk]? =some (aK (X.aF ks (k+1)))):=
    aa (fun W1 hh=>⟨hh.get (af _ (List.mem_append_right _ HF.out)),hh.get (af _ ae),hh.get (af _ (af _ ae)),hh.get (af _ (af _ (af _ ae))),hh.get ae⟩)
   have dW:=aa (fun w1 (hh:At w0 p ((Bk,aK (X.aF ks (k+1)))::(pI pf Bf Bo Bb A b.length cb (.slice none 0 0)++fs)) s w1)=>bD (X.aF ks (k+1)) (.slice A b.length cb) b bL w1 (xn.out _ _ _ (fun x hx=>af _ (List.mem_append_right _ hx)) hh) (BU.out _ (X.aR kV.out)) (by have:=FC.out;omega));have iX:(X.aF ks (k+1)).val b=X.val ks (k+1) b:=rfl;rw[iX]at dW;have My:=aa (fun W=>aZ nm size (some ⟨g,0,none⟩) ks.length c (k+1) (by have:=cP.out;have:=a7.out;omega) (by have:=HX.out.nm;omega) W);have rr:(X.val ks (k+1) b).length=X.lens ks (k+1):=X.aP lH.out kV.out;have Cc:=HX.out.con.oJ HX.out.ks HX.out.rows (by have:=HX.out.ct;omega) kV.out rr;have xW:=aa (fun w1 (hh:At w0 p ((Bk,aK (X.aF ks (k+1)))::(pI pf Bf Bo Bb A b.length cb (.slice none 0 0)++fs)) s w1)=>iP hh ⟨(X.pre nm (k+1)++X.val ks (k+1) b).toArray⟩ (X.pre nm (k+1)++X.val ks (k+1) b) true (by have:=HX.out.many;omega));rw[Cc]at xW;simp only[Option.isSome_map]at xW;rw[X.ua]at xW;have hap:(⟨(X.pre nm (k+1)).toArray⟩:ByteArray)++⟨(X.val ks (k+1) b).toArray⟩=⟨(X.pre nm (k+1)++X.val ks (k+1) b).toArray⟩:=jF _ _;have hs1:(⟨(X.pre nm (k+1)).toArray⟩:ByteArray).size≤1000:=by
    have h1:=X.kt nm (k+1);have:=HX.out.nm;rw[bu];omega
   have hs2:(⟨(X.val ks (k+1) b).toArray⟩:ByteArray).size≤1000:=by
    have:=(HX.out.lens kV.out).2;rw[bu];omega
   generalize(⟨(X.pre nm (k+1)++X.val ks (k+1) b).toArray⟩:ByteArray)=key at hap xW;generalize(⟨(X.pre nm (k+1)).toArray⟩:ByteArray)=pp at hap My hs1;generalize(⟨(X.val ks (k+1) b).toArray⟩:ByteArray)=vb at hap dW hs2;generalize(⟨(Option.getD (Option.map (X.aJ nm ks (k+1)) _) []).toArray⟩:ByteArray)=rs at xW;have hcb:X.uE ks rows (k+1) b none=(!X.keeps ks (k+1) b none&&rows.any fun r=>decide (X.val ks (k+1) r.b=X.val ks (k+1) b)):=rfl;generalize(rows.any fun r=>decide (X.val ks (k+1) r.b=X.val ks (k+1) b))=an at hcb xW;have EM:=aa hcb;have Hz:wrap64 ((k:Int)+1)=((k+1:Nat):Int):=nu iD.out;have NW:IntKind.i64.wrap ((k:Int)+1)=((k+1:Nat):Int):=qC iD.out;clear hcb iX k1 k2 k3 EA HZ ha2 hb2 hrow hg hsz kC KA Cc rr;go_wp2_with fail
   gi_upto_region 3 with fail
   refine wpIn_wide.2 ?_;refine aL (.rd 0 (.rd 1 (.rd 2 (.rd 3 (.rd 4 (.rd 6 (.rd 7 (.wr 5 (.wr 8 (.rd 9 (.rd 10 .fin))))))))))) (fun w'=>AB w0 p ((Bk,aK (X.aF ks (k+1)))::(pI pf Bf Bo Bb A b.length cb (.slice none 0 0)++fs)) s wr w') (by kernel_rfl) (by kernel_rfl) (fun c a d v w h=>by cases d<;>exact h) (bH.out.below ((ai _ _).drew)) ?_;repeat
    first
    |refine aw (v:= ?_) (by rfl) (by rfl) (fun w' hS=> ?_) (fun K hK=> ?_)
     rotate_left
     ·obtain⟨r1,r2,r3,r4,r5⟩:=gY.out w' hS.at_;have hc1:=fun j=>ag w' pf j _ _ _ r1;have hc2:=fun j=>ag w' Bf j _ _ _ r2;have hc3:=fun j=>ag w' Bo j _ _ _ r3;have ly:=fun j=>ag w' Bb j _ _ _ r4;have gX:=fun j=>ag w' Bk j _ _ _ r5;clear r1 r2 r3 r4 r5;clear hS;go_simp;try with_reducible rfl
     go_simp;refine hK _ ?_;clear hK K
    |refine ax (by rfl) (by rfl) (fun K hK=> ?_)
     go_simp;refine hK _ ?_;clear hK K
   refine wpPm_write (by rfl) (fun K hK=> ?_);go_simp;refine hK.out _ _ (fun w'=>AB w0 p ((Bk,aK (X.aF ks (k+1)))::(pI pf Bf Bo Bb A b.length cb (.slice none 0 0)++fs)) s wr w') (fun _ h=>h) (bH.out.below ((ai _ _).drew)) ?_;clear hK K;refine wpPm_write (by rfl) (fun K hK=> ?_);go_simp;refine hK.out _ _ (fun w'=>AB w0 p ((Bk,aK (X.aF ks (k+1)))::(pI pf Bf Bo Bb A b.length cb (.slice none 0 0)++fs)) s wr w') (fun _ h=>h) (bH.out.below ((ai _ _).drew)) ?_;clear hK K;repeat
    first
    |refine aw (v:= ?_) (by rfl) (by rfl) (fun w' hS=> ?_) (fun K hK=> ?_)
     rotate_left
     ·obtain⟨r1,r2,r3,r4,r5⟩:=gY.out w' hS.at_;have hc1:=fun j=>ag w' pf j _ _ _ r1;have hc2:=fun j=>ag w' Bf j _ _ _ r2;have hc3:=fun j=>ag w' Bo j _ _ _ r3;have ly:=fun j=>ag w' Bb j _ _ _ r4;have gX:=fun j=>ag w' Bk j _ _ _ r5;clear r1 r2 r3 r4 r5;clear hS;go_simp;try with_reducible rfl
     go_simp;refine hK _ ?_;clear hK K
    |refine ax (by rfl) (by rfl) (fun K hK=> ?_)
     go_simp;refine hK _ ?_;clear hK K
   show wpList _ _ _ _ _ _;refine aG (fun Y=>AB w0 p ((Bk,aK (X.aF ks (k+1)))::(pI pf Bf Bo Bb A b.length cb (.slice none 0 0)++fs)) s wr Y) (bH.out.below ((ai _ _).drew)) ?_;intro W4 xi;have bG:=aa xi;clear xi bH;go_wp2_with fail
   gi_upto_region 4 with fail
   refine wpIn_wide.2 ?_;refine aA 9 (.rd 0 (.rd 1 (.rd 2 (.rd 3 (.rd 4 (.rd 5 (.rd 7 (.rd 8 (.wr 6 .fin))))))))) (fun w'=>AB w0 p ((Bk,aK (X.aF ks (k+1)))::(pI pf Bf Bo Bb A b.length cb (.slice none 0 0)++fs)) s wr w') (by kernel_rfl) (by kernel_rfl) (fun c a d v w h=>by cases d<;>exact h) (bG.out.below ((ai _ _).drew)) ?_;repeat
    refine aw (v:= ?_) (by rfl) (by rfl) (fun w' hS=> ?_) (fun K hK=> ?_);rotate_left
    ·obtain⟨r1,r2,r3,r4,r5⟩:=gY.out w' hS.at_;have hc1:=fun j=>ag w' pf j _ _ _ r1;have hc2:=fun j=>ag w' Bf j _ _ _ r2;have hc3:=fun j=>ag w' Bo j _ _ _ r3;have ly:=fun j=>ag w' Bb j _ _ _ r4;have gX:=fun j=>ag w' Bk j _ _ _ r5;clear r1 r2 r3 r4 r5;clear hS;go_simp;try with_reducible rfl
    go_simp;refine hK _ ?_;clear hK K
   refine wpPm_write (by rfl) (fun K hK=> ?_);go_simp;refine(My.out _).mono ?_;rintro e W6 ⟨rfl,hb⟩;have bK:=aa ((bG.out.below ((ai _ _).drew)).below hb);clear hb My;refine hK.out _ _ (fun w'=>AB w0 p ((Bk,aK (X.aF ks (k+1)))::(pI pf Bf Bo Bb A b.length cb (.slice none 0 0)++fs)) s wr w') (fun _ h=>h) bK.out ?_;clear hK K;show wpList _ _ _ _ _ _;go_wp2_with fail;refine(dW.out _ bK.out.at_).mono ?_;rintro e W7 ⟨rfl,hb⟩;have bz:=aa (bK.out.below hb);clear hb dW bK;obtain⟨r1,r2,r3,r4,r5⟩:=gY.out W7 bz.out.at_;have hc1:=fun j=>ag W7 pf j _ _ _ r1;have hc2:=fun j=>ag W7 Bf j _ _ _ r2;have hc3:=fun j=>ag W7 Bo j _ _ _ r3;have ly:=fun j=>ag W7 Bb j _ _ _ r4;have gX:=fun j=>ag W7 Bk j _ _ _ r5;clear r1 r2 r3 r4 r5;go_wp2_with fail
   gi_wp2_with fail
   refine And.intro trivial ?_;refine(callsIn_wide.2 (xW.out _ bz.out.at_)).mono ?_;rintro e W8 ⟨rfl,hb⟩;have jd:=aa (bz.out.below hb);clear hb xW bz hc1 hc2 hc3 ly gX;obtain⟨r1,r2,r3,r4,r5⟩:=gY.out W8 jd.out.at_;have hc1:=fun j=>ag W8 pf j _ _ _ r1;have hc2:=fun j=>ag W8 Bf j _ _ _ r2;have hc3:=fun j=>ag W8 Bo j _ _ _ r3;have ly:=fun j=>ag W8 Bb j _ _ _ r4;have gX:=fun j=>ag W8 Bk j _ _ _ r5;clear r1 r2 r3 r4 r5;cases an with
   |false=>
    have QM:=aa (HI.out.step jd.out.bel HJ.out (X.rE (by rw[EM.out];simp)));clear HI jd
    gi_wp2
    refine⟨fun _ h=>(by cases h), ?_⟩
    gi_wp2
    go_roundw
    case rel=>exact⟨k+1,a7.out,by first|exact br k iD.out|exact aX k,QM⟩
    case measure=>first|exact a6 a7.out iD.out|exact aV a7.out
   |true=>
    have cA:=X.uF (by rw[EM.out,show X.keeps ks (k+1) b none=false from rfl];rfl);have zy:=aa (HI.out.step jd.out.bel HJ.out rfl);have hlen:(X.bA ks rows b none k).length<(X.bA ks rows b none (ks.length - 1)).length:=by
     obtain⟨t,ht⟩:=X.nw ks rows b none (k+1) (ks.length - 1 - (k+1));rw[show k+1+(ks.length - 1 - (k+1))=ks.length - 1 by have:=a7.out;omega]at ht;rw[←ht,cA];simp
    obtain⟨fn,tmps,assign,body,hy,hR⟩:=HY.out _ (X.aF ks (k+1)).dup W8 zy.out.j hlen;have jw:=aa cA;clear HI jd cA hlen
    gi_wp2_with fail
    refine hR.mono ?_;rintro e W9 (⟨rfl,QN,Mr⟩|⟨rfl,Md⟩)
    ·have Uo:=aa (zy.out.go (j:=k+1) Mr (by rw[jw.out];exact QN));clear QN Mr hR hy zy hc1 hc2 hc3 ly gX
     gi_wp2
     go_roundw
     case rel=>exact⟨k+1,a7.out,by first|exact br k iD.out|exact aX k,Uo⟩
     case measure=>first|exact a6 a7.out iD.out|exact aV a7.out
    ·have Np:=aa Md;clear Md hR hy zy hc1 hc2 hc3 ly gX
     gi_wp2
     refine bodyPost_ret (results_none rfl _ _ _) rfl ?_;refine⟨⟨_,rfl⟩, .inr ⟨_, ?_,by rw[←jw.out]at Np;exact Np.out⟩⟩;have:=X.nw ks rows b none (k+1) (ks.length - 1 - (k+1));rw[show k+1+(ks.length - 1 - (k+1))=ks.length - 1 by have:=a7.out;omega]at this;exact this
  ·obtain rfl:k=ks.length - 1:=(by omega);have PF:=aa HI.out.j;clear HI
   gi_wp2
   go_end0;exact⟨⟨_,rfl⟩, .inl ⟨_,rfl,PF.out⟩⟩
theorem xB (n:Nat) (hn:1≤n) (l:Nat) {o:X.Row} (sA:X.bg ks size o.b=true) (h:At w0 p fs s w) (hF:(pf,av p nm size g ks.length c f)∈fs) (bq:(g,ok)∈fs) (hO:bI ok ks) (hcap:ks.length≤c) (hX:XF nm size ks rows ct s.now) (gQ:Src w0 p fs (.slice A b.length cb) b) (aT:X.bg ks size b=true) (hold:qz w0 p fs vo (some o))
  (W:World) (hW:Below w.heap.size w W) (hJ:AbidesFrom W.heap.size Jv) (b6:∀x∈pI pf Bf Bo Bb A b.length cb vo,w.heap.size+2≤x.1∧W.heap[x.1]? =some x.2) (h0:Jv [] W)
  (hY:∀xs x W,Jv xs W→xs.length<(X.bA ks rows b (some o) (ks.length - 1)).length→YieldAt Fence.wide (n - 1) Tryz.prog l #[Ir x] W fun e W'=>(e= .returned (.bool true)∧Jv (xs++[x]) W'∧Iq w.heap.size W W')∨(e= .returned (.bool false)∧Jx (xs++[x]) W')):
  CallsIn Fence.wide n Tryz.prog 136 #[.func (.yield l) #[] #[], .pointer (some ⟨Bf,0,none⟩), .pointer (some ⟨Bo,0,none⟩), .pointer (some ⟨Bb,0,none⟩)] W fun e W'=>(∃v,e= .returned v)∧
   ((∃ys,ys=X.bA ks rows b (some o) (ks.length - 1)∧Jv ys W')∨(∃q,q<+:X.bA ks rows b (some o) (ks.length - 1)∧Jx q W')):=by
 obtain⟨⟨bo,oo,co,rfl⟩,Al⟩:=hold;have aN:=hX.ks.one;obtain⟨A',kz,hA'⟩:=jL g ks.length c aN.1 hcap;have ib:=aa (⟨h0,hW,b6⟩:sB w ks rows b (some o) pf Bf Bo Bb A cb (.slice (some ⟨bo,oo,none⟩) o.b.length co) Jv 0 W);have hat:=ib.out.at_ h;have hc1:=fun j=>ag W pf j _ _ _ (hat.get (List.mem_append_right _ hF));have hc2:=fun j=>ag W Bf j _ _ _ (b6 (Bf,aB pf) ae).2;have NV:=aa hA';have HX:=aa hX;have lH:=aa aT;have B5:=aa Al;have xn:=aa gQ;have HF:=aa hF;have oM:=aa bq;have HO:=aa hO;have HA:=aa h;have cP:=aa aN;have HY:=aa hY;have HJ:=aa hJ;have KM:=aa sA;have FC:=aa (show b.length≤4096 by have h1:=(X.aM.1 aT).1;have h2:=hX.ks.size;omega);have BU:=aa (X.aM.1 aT).2;clear h hF bq hO hcap hX gQ aT Al hW hJ b6 h0 hY aN hA' hat sA;refine callsIn_of_wp Tryz.func136 rfl trivial ?_ rfl;simp only[Tryz.ntmps136,List.size_toArray,List.length_cons,List.length_nil,Nat.reduceAdd,Nat.reduceSub,Array.replicate_succ,Array.replicate_zero,List.push_toArray,List.append_toArray,List.nil_append,List.cons_append]
 gi_wp2
 clear hc1 hc2 kz
 gi_loopw [17] (fun t W=>∃k:Nat,k≤ks.length - 1∧t= .int .i64 k∧Hid (sB w ks rows b (some o) pf Bf Bo Bb A cb (.slice (some ⟨bo,oo,none⟩) o.b.length co) Jv k W)) (fun t _=>ks.length - 1 - (intOf t).toNat)
 case atStart=>exact⟨0,Nat.zero_le _,rfl,ib⟩
 case round=>
  clear ib;obtain⟨k,hk,rfl,HI⟩:=hrel;by_cases hlt:k<ks.length - 1
  ·have jB:k+1<ks.length:=(by omega);have kV:=aa jB;have a7:=aa hlt;have iD:Hid (k≤1000000):=aa (by have:=cP.out;omega);have e1:A'=some ⟨g,3,none⟩:=NV.out (by omega);subst e1;have hat:=HI.out.at_ HA.out;have bh:=HO.out.2 wr g (hat.get (List.mem_append_right _ oM.out));have k1:=bh.at_ jB;have k2:=bh.len jB;have k3:=bh.dup jB;rw[show(k+1)*3=3+k*3 by omega]at k1 k2 k3;have EA:(k:Int)<((ks.length - 1:Nat):Int):=(by omega);have HZ:=aa (heap_alloc_new wr dz);have uG:=aa hat;clear bh jB hat
   gi_upto_region 2 with fail
   refine wpIn_wide.2 ?_;go_wp2_with (refine wpList_store_row rfl _ _ 66 rfl wr.heap.size rfl _ rfl _ _ HZ.out rfl (by kernel_rfl) rfl ?_);intro W2 hrow hg hsz;obtain⟨ha2,hb2⟩:=uG.out.stored dz hg;have hrow:W2.heap[wr.heap.size]? =some (aK (X.aF ks (k+1))):=hrow;have kC:=uG.out.add hb2 (gs:=[(wr.heap.size,aK (X.aF ks (k+1)))]) (fun x hx=>by simp only[List.mem_singleton]at hx;subst hx;exact⟨aj _,hrow⟩);generalize KA:wr.heap.size=Bk at kC hrow⊢;have bH:Hid (AB w0 p ((Bk,aK (X.aF ks (k+1)))::(pI pf Bf Bo Bb A b.length cb (.slice (some ⟨bo,oo,none⟩) o.b.length co)++fs)) s wr W2):=aa ⟨kC,hb2⟩;have gY:Hid (∀W1,At w0 p ((Bk,aK (X.aF ks (k+1)))::(pI pf Bf Bo Bb A b.length cb (.slice (some ⟨bo,oo,none⟩) o.b.length co)++fs)) s W1→W1.heap[pf]? =some (av p nm size g ks.length c f)∧W1.heap[Bf]? =some (aB pf)∧W1.heap[Bo]? =some (aW (.slice (some ⟨bo,oo,none⟩) o.b.length co))∧W1.heap[Bb]? =some (aW (.slice A b.length cb))∧W1.heap[Bk]? =some (aK (X.aF ks (k+1)))):=
    aa (fun W1 hh=>⟨hh.get (af _ (List.mem_append_right _ HF.out)),hh.get (af _ ae),hh.get (af _ (af _ ae)),hh.get (af _ (af _ (af _ ae))),hh.get ae⟩)
   have dW:=aa (fun w1 (hh:At w0 p ((Bk,aK (X.aF ks (k+1)))::(pI pf Bf Bo Bb A b.length cb (.slice (some ⟨bo,oo,none⟩) o.b.length co)++fs)) s w1)=>bD (X.aF ks (k+1)) (.slice A b.length cb) b bL w1 (xn.out _ _ _ (fun x hx=>af _ (List.mem_append_right _ hx)) hh) (BU.out _ (X.aR kV.out)) (by have:=FC.out;omega));have iX:(X.aF ks (k+1)).val b=X.val ks (k+1) b:=rfl;rw[iX]at dW;have My:=aa (fun W=>aZ nm size (some ⟨g,0,none⟩) ks.length c (k+1) (by have:=cP.out;have:=a7.out;omega) (by have:=HX.out.nm;omega) W);have rr:(X.val ks (k+1) b).length=X.lens ks (k+1):=X.aP lH.out kV.out;have Cc:=HX.out.con.oJ HX.out.ks HX.out.rows (by have:=HX.out.ct;omega) kV.out rr;have xW:=aa (fun w1 (hh:At w0 p ((Bk,aK (X.aF ks (k+1)))::(pI pf Bf Bo Bb A b.length cb (.slice (some ⟨bo,oo,none⟩) o.b.length co)++fs)) s w1)=>iP hh ⟨(X.pre nm (k+1)++X.val ks (k+1) b).toArray⟩ (X.pre nm (k+1)++X.val ks (k+1) b) true (by have:=HX.out.many;omega));rw[Cc]at xW;simp only[Option.isSome_map]at xW;rw[X.ua]at xW;have hap:(⟨(X.pre nm (k+1)).toArray⟩:ByteArray)++⟨(X.val ks (k+1) b).toArray⟩=⟨(X.pre nm (k+1)++X.val ks (k+1) b).toArray⟩:=jF _ _;have hs1:(⟨(X.pre nm (k+1)).toArray⟩:ByteArray).size≤1000:=by
    have h1:=X.kt nm (k+1);have:=HX.out.nm;rw[bu];omega
   have hs2:(⟨(X.val ks (k+1) b).toArray⟩:ByteArray).size≤1000:=by
    have:=(HX.out.lens kV.out).2;rw[bu];omega
   generalize(⟨(X.pre nm (k+1)++X.val ks (k+1) b).toArray⟩:ByteArray)=key at hap xW;generalize(⟨(X.pre nm (k+1)).toArray⟩:ByteArray)=pp at hap My hs1;generalize(⟨(Option.getD (Option.map (X.aJ nm ks (k+1)) _) []).toArray⟩:ByteArray)=rs at xW;have hcb:X.uE ks rows (k+1) b (some o)=(!X.keeps ks (k+1) b (some o)&&rows.any fun r=>decide (X.val ks (k+1) r.b=X.val ks (k+1) b)):=rfl;generalize(rows.any fun r=>decide (X.val ks (k+1) r.b=X.val ks (k+1) b))=an at hcb xW;have EM:=aa hcb;have Hz:wrap64 ((k:Int)+1)=((k+1:Nat):Int):=nu iD.out;have NW:IntKind.i64.wrap ((k:Int)+1)=((k+1:Nat):Int):=qC iD.out;clear hcb iX k1 k2 k3 EA HZ ha2 hb2 hrow hg hsz kC KA Cc rr;have wz:=aa (fun w1 (hh:At w0 p ((Bk,aK (X.aF ks (k+1)))::(pI pf Bf Bo Bb A b.length cb (.slice (some ⟨bo,oo,none⟩) o.b.length co)++fs)) s w1)=>bD (X.aF ks (k+1)) (.slice (some ⟨bo,oo,none⟩) o.b.length co) o.b bL w1 (B5.out _ _ _ (fun x hx=>af _ (List.mem_append_right _ hx)) hh) ((X.aM.1 KM.out).2 _ (X.aR kV.out)) (by have:=(X.aM.1 KM.out).1;have:=HX.out.ks.size;omega));have iX:(X.aF ks (k+1)).val o.b=X.val ks (k+1) o.b:=rfl;rw[iX]at wz;have hq:=ea (X.val ks (k+1) o.b) (X.val ks (k+1) b);have Qs:X.keeps ks (k+1) b (some o)=decide (X.val ks (k+1) o.b=X.val ks (k+1) b):=rfl;rw[←Qs]at hq;generalize(⟨(X.val ks (k+1) o.b).toArray⟩:ByteArray)=Wn at wz hq;generalize(⟨(X.val ks (k+1) b).toArray⟩:ByteArray)=vb at hap dW hs2 hq;clear iX Qs;cases sW:X.keeps ks (k+1) b (some o)with
   |true=>
    rw[sW]at hq;rw[sW]at EM;clear sW;go_wp2_with fail
    gi_upto_region 3 with fail
    refine wpIn_wide.2 ?_;refine aL (.rd 0 (.rd 1 (.rd 2 (.rd 3 (.rd 4 (.rd 6 (.rd 7 (.wr 5 (.wr 8 (.rd 9 (.rd 10 .fin))))))))))) (fun w'=>AB w0 p ((Bk,aK (X.aF ks (k+1)))::(pI pf Bf Bo Bb A b.length cb (.slice (some ⟨bo,oo,none⟩) o.b.length co)++fs)) s wr w') (by kernel_rfl) (by kernel_rfl) (fun c a d v w h=>by cases d<;>exact h) (bH.out.below ((ai _ _).drew)) ?_;repeat
     first
     |refine aw (v:= ?_) (by rfl) (by rfl) (fun w' hS=> ?_) (fun K hK=> ?_)
      rotate_left
      ·obtain⟨r1,r2,r3,r4,r5⟩:=gY.out w' hS.at_;have hc1:=fun j=>ag w' pf j _ _ _ r1;have hc2:=fun j=>ag w' Bf j _ _ _ r2;have hc3:=fun j=>ag w' Bo j _ _ _ r3;have ly:=fun j=>ag w' Bb j _ _ _ r4;have gX:=fun j=>ag w' Bk j _ _ _ r5;clear r1 r2 r3 r4 r5;clear hS;go_simp;try with_reducible rfl
      go_simp;refine hK _ ?_;clear hK K
     |refine ax (by rfl) (by rfl) (fun K hK=> ?_)
      go_simp;refine hK _ ?_;clear hK K
    refine wpPm_write (by rfl) (fun K hK=> ?_);go_simp;refine(wz.out _ (bH.out.below ((ai _ _).drew)).at_).mono ?_;rintro e W4 ⟨rfl,hb⟩;have bG:=aa ((bH.out.below ((ai _ _).drew)).below hb);clear hb wz;refine hK.out _ _ (fun w'=>AB w0 p ((Bk,aK (X.aF ks (k+1)))::(pI pf Bf Bo Bb A b.length cb (.slice (some ⟨bo,oo,none⟩) o.b.length co)++fs)) s wr w') (fun _ h=>h) bG.out ?_;clear hK K;refine wpPm_write (by rfl) (fun K hK=> ?_);go_simp;refine(dW.out _ bG.out.at_).mono ?_;rintro e W5 ⟨rfl,hb⟩;have cI:=aa (bG.out.below hb);clear hb;refine hK.out _ _ (fun w'=>AB w0 p ((Bk,aK (X.aF ks (k+1)))::(pI pf Bf Bo Bb A b.length cb (.slice (some ⟨bo,oo,none⟩) o.b.length co)++fs)) s wr w') (fun _ h=>h) cI.out ?_;clear hK K;repeat
     first
     |refine aw (v:= ?_) (by rfl) (by rfl) (fun w' hS=> ?_) (fun K hK=> ?_)
      rotate_left
      ·obtain⟨r1,r2,r3,r4,r5⟩:=gY.out w' hS.at_;have hc1:=fun j=>ag w' pf j _ _ _ r1;have hc2:=fun j=>ag w' Bf j _ _ _ r2;have hc3:=fun j=>ag w' Bo j _ _ _ r3;have ly:=fun j=>ag w' Bb j _ _ _ r4;have gX:=fun j=>ag w' Bk j _ _ _ r5;clear r1 r2 r3 r4 r5;clear hS;go_simp;try with_reducible rfl
      go_simp;refine hK _ ?_;clear hK K
     |refine ax (by rfl) (by rfl) (fun K hK=> ?_)
      go_simp;refine hK _ ?_;clear hK K
    show wpList _ _ _ _ _ _;clear bH bG hq;have QM:=aa (HI.out.step cI.out.bel HJ.out (X.rE (by rw[EM.out];simp)));clear HI cI dW My xW;go_wp2_with fail
    gi_wp2
    go_roundw
    case rel=>exact⟨k+1,a7.out,by first|exact br k iD.out|exact aX k,QM⟩
    case measure=>first|exact a6 a7.out iD.out|exact aV a7.out
   |false=>
    rw[sW]at hq;have T9:=aa sW;clear sW;go_wp2_with fail
    gi_upto_region 3 with fail
    refine wpIn_wide.2 ?_;refine aL (.rd 0 (.rd 1 (.rd 2 (.rd 3 (.rd 4 (.rd 6 (.rd 7 (.wr 5 (.wr 8 (.rd 9 (.rd 10 .fin))))))))))) (fun w'=>AB w0 p ((Bk,aK (X.aF ks (k+1)))::(pI pf Bf Bo Bb A b.length cb (.slice (some ⟨bo,oo,none⟩) o.b.length co)++fs)) s wr w') (by kernel_rfl) (by kernel_rfl) (fun c a d v w h=>by cases d<;>exact h) (bH.out.below ((ai _ _).drew)) ?_;repeat
     first
     |refine aw (v:= ?_) (by rfl) (by rfl) (fun w' hS=> ?_) (fun K hK=> ?_)
      rotate_left
      ·obtain⟨r1,r2,r3,r4,r5⟩:=gY.out w' hS.at_;have hc1:=fun j=>ag w' pf j _ _ _ r1;have hc2:=fun j=>ag w' Bf j _ _ _ r2;have hc3:=fun j=>ag w' Bo j _ _ _ r3;have ly:=fun j=>ag w' Bb j _ _ _ r4;have gX:=fun j=>ag w' Bk j _ _ _ r5;clear r1 r2 r3 r4 r5;clear hS;go_simp;try with_reducible rfl
      go_simp;refine hK _ ?_;clear hK K
     |refine ax (by rfl) (by rfl) (fun K hK=> ?_)
      go_simp;refine hK _ ?_;clear hK K
    refine wpPm_write (by rfl) (fun K hK=> ?_);go_simp;refine(wz.out _ (bH.out.below ((ai _ _).drew)).at_).mono ?_;rintro e W4 ⟨rfl,hb⟩;have bG:=aa ((bH.out.below ((ai _ _).drew)).below hb);clear hb wz;refine hK.out _ _ (fun w'=>AB w0 p ((Bk,aK (X.aF ks (k+1)))::(pI pf Bf Bo Bb A b.length cb (.slice (some ⟨bo,oo,none⟩) o.b.length co)++fs)) s wr w') (fun _ h=>h) bG.out ?_;clear hK K;refine wpPm_write (by rfl) (fun K hK=> ?_);go_simp;refine(dW.out _ bG.out.at_).mono ?_;rintro e W5 ⟨rfl,hb⟩;have cI:=aa (bG.out.below hb);clear hb;refine hK.out _ _ (fun w'=>AB w0 p ((Bk,aK (X.aF ks (k+1)))::(pI pf Bf Bo Bb A b.length cb (.slice (some ⟨bo,oo,none⟩) o.b.length co)++fs)) s wr w') (fun _ h=>h) cI.out ?_;clear hK K;repeat
     first
     |refine aw (v:= ?_) (by rfl) (by rfl) (fun w' hS=> ?_) (fun K hK=> ?_)
      rotate_left
      ·obtain⟨r1,r2,r3,r4,r5⟩:=gY.out w' hS.at_;have hc1:=fun j=>ag w' pf j _ _ _ r1;have hc2:=fun j=>ag w' Bf j _ _ _ r2;have hc3:=fun j=>ag w' Bo j _ _ _ r3;have ly:=fun j=>ag w' Bb j _ _ _ r4;have gX:=fun j=>ag w' Bk j _ _ _ r5;clear r1 r2 r3 r4 r5;clear hS;go_simp;try with_reducible rfl
      go_simp;refine hK _ ?_;clear hK K
     |refine ax (by rfl) (by rfl) (fun K hK=> ?_)
      go_simp;refine hK _ ?_;clear hK K
    show wpList _ _ _ _ _ _;clear bH bG hq;go_wp2_with fail
    gi_upto_region 4 with fail
    refine wpIn_wide.2 ?_;refine aA 9 (.rd 0 (.rd 1 (.rd 2 (.rd 3 (.rd 4 (.rd 5 (.rd 7 (.rd 8 (.wr 6 .fin))))))))) (fun w'=>AB w0 p ((Bk,aK (X.aF ks (k+1)))::(pI pf Bf Bo Bb A b.length cb (.slice (some ⟨bo,oo,none⟩) o.b.length co)++fs)) s wr w') (by kernel_rfl) (by kernel_rfl) (fun c a d v w h=>by cases d<;>exact h) (cI.out.below ((ai _ _).drew)) ?_;repeat
     refine aw (v:= ?_) (by rfl) (by rfl) (fun w' hS=> ?_) (fun K hK=> ?_);rotate_left
     ·obtain⟨r1,r2,r3,r4,r5⟩:=gY.out w' hS.at_;have hc1:=fun j=>ag w' pf j _ _ _ r1;have hc2:=fun j=>ag w' Bf j _ _ _ r2;have hc3:=fun j=>ag w' Bo j _ _ _ r3;have ly:=fun j=>ag w' Bb j _ _ _ r4;have gX:=fun j=>ag w' Bk j _ _ _ r5;clear r1 r2 r3 r4 r5;clear hS;go_simp;try with_reducible rfl
     go_simp;refine hK _ ?_;clear hK K
    refine wpPm_write (by rfl) (fun K hK=> ?_);go_simp;refine(My.out _).mono ?_;rintro e W6 ⟨rfl,hb⟩;have bK:=aa ((cI.out.below ((ai _ _).drew)).below hb);clear hb My;refine hK.out _ _ (fun w'=>AB w0 p ((Bk,aK (X.aF ks (k+1)))::(pI pf Bf Bo Bb A b.length cb (.slice (some ⟨bo,oo,none⟩) o.b.length co)++fs)) s wr w') (fun _ h=>h) bK.out ?_;clear hK K;show wpList _ _ _ _ _ _;go_wp2_with fail;refine(dW.out _ bK.out.at_).mono ?_;rintro e W7 ⟨rfl,hb⟩;have bz:=aa (bK.out.below hb);clear hb dW bK;obtain⟨r1,r2,r3,r4,r5⟩:=gY.out W7 bz.out.at_;have hc1:=fun j=>ag W7 pf j _ _ _ r1;have hc2:=fun j=>ag W7 Bf j _ _ _ r2;have hc3:=fun j=>ag W7 Bo j _ _ _ r3;have ly:=fun j=>ag W7 Bb j _ _ _ r4;have gX:=fun j=>ag W7 Bk j _ _ _ r5;clear r1 r2 r3 r4 r5;go_wp2_with fail
    gi_wp2_with fail
    refine And.intro trivial ?_;refine(callsIn_wide.2 (xW.out _ bz.out.at_)).mono ?_;rintro e W8 ⟨rfl,hb⟩;have jd:=aa (bz.out.below hb);clear hb xW bz hc1 hc2 hc3 ly gX;obtain⟨r1,r2,r3,r4,r5⟩:=gY.out W8 jd.out.at_;have hc1:=fun j=>ag W8 pf j _ _ _ r1;have hc2:=fun j=>ag W8 Bf j _ _ _ r2;have hc3:=fun j=>ag W8 Bo j _ _ _ r3;have ly:=fun j=>ag W8 Bb j _ _ _ r4;have gX:=fun j=>ag W8 Bk j _ _ _ r5;clear r1 r2 r3 r4 r5;cases an with
    |false=>
     have QM:=aa (HI.out.step jd.out.bel HJ.out (X.rE (by rw[EM.out];simp)));clear HI jd
     gi_wp2
     refine⟨fun _ h=>(by cases h), ?_⟩
     gi_wp2
     go_roundw
     case rel=>exact⟨k+1,a7.out,by first|exact br k iD.out|exact aX k,QM⟩
     case measure=>first|exact a6 a7.out iD.out|exact aV a7.out
    |true=>
     have cA:=X.uF (by rw[EM.out,T9.out];rfl);have zy:=aa (HI.out.step jd.out.bel HJ.out rfl);have hlen:(X.bA ks rows b (some o) k).length<(X.bA ks rows b (some o) (ks.length - 1)).length:=by
      obtain⟨t,ht⟩:=X.nw ks rows b (some o) (k+1) (ks.length - 1 - (k+1));rw[show k+1+(ks.length - 1 - (k+1))=ks.length - 1 by have:=a7.out;omega]at ht;rw[←ht,cA];simp
     obtain⟨fn,tmps,assign,body,hy,hR⟩:=HY.out _ (X.aF ks (k+1)).dup W8 zy.out.j hlen;have jw:=aa cA;clear HI jd cA hlen
     gi_wp2_with fail
     refine hR.mono ?_;rintro e W9 (⟨rfl,QN,Mr⟩|⟨rfl,Md⟩)
     ·have Uo:=aa (zy.out.go (j:=k+1) Mr (by rw[jw.out];exact QN));clear QN Mr hR hy zy hc1 hc2 hc3 ly gX
      gi_wp2
      go_roundw
      case rel=>exact⟨k+1,a7.out,by first|exact br k iD.out|exact aX k,Uo⟩
      case measure=>first|exact a6 a7.out iD.out|exact aV a7.out
     ·have Np:=aa Md;clear Md hR hy zy hc1 hc2 hc3 ly gX
      gi_wp2
      refine bodyPost_ret (results_none rfl _ _ _) rfl ?_;refine⟨⟨_,rfl⟩, .inr ⟨_, ?_,by rw[←jw.out]at Np;exact Np.out⟩⟩;have:=X.nw ks rows b (some o) (k+1) (ks.length - 1 - (k+1));rw[show k+1+(ks.length - 1 - (k+1))=ks.length - 1 by have:=a7.out;omega]at this;exact this
  ·obtain rfl:k=ks.length - 1:=(by omega);have PF:=aa HI.out.j;clear HI
   gi_wp2
   go_end0;exact⟨⟨_,rfl⟩, .inl ⟨_,rfl,PF.out⟩⟩
end
end Go.Proofs.YtipljcmmokaokaaGreat
namespace Go.Proofs.YtipljcmmokaokaaGreat
open Go.RowKit Go.Lib Go.Maps Go.WideMaps Go.Sort Go.Shelf
set_option maxRecDepth 100000
attribute [local go_sem] Oper.semAt_some
namespace X
def pJ (l:List Bool):J.B:=if l=[]then [48,48]else [48,50]
def fP (l:List Bool):J.B:=if l.any (!·)=true then [50,50]else pJ l
theorem ER (l:List Bool) (x:Bool):pJ (l++[x])=[48,50]:=by unfold pJ;rw[if_neg (by simp)]
theorem Ce {l:List Bool} (h:∀x∈l,x=true):fP l=pJ l:=by
 unfold fP;rw[if_neg];intro hh;obtain⟨x,hx,hn⟩:=List.any_eq_true.1 hh;rw[h x hx]at hn;cases hn
theorem Cf {q l:List Bool} (h:q++[false]<+:l):fP l=[50,50]:=by
 unfold fP;rw[if_pos];obtain⟨t,rfl⟩:=h;simp
theorem zB (m:M) (b:J.B) (old:Option Row):fP (bA m.ks m.rows b old (m.ks.length - 1))=m.dZ b old:=by
 have h1:(bA m.ks m.rows b old (m.ks.length - 1)).any (!·)=(List.range' 1 (m.ks.length - 1)).any (fun i=>m.cN i b old&& !(aF m.ks i).dup):=by
  unfold bA;rw[List.any_map,List.any_filter];rfl
 have h2:bA m.ks m.rows b old (m.ks.length - 1)=[]↔(List.range' 1 (m.ks.length - 1)).any (fun i=>m.cN i b old)=false:=by
  unfold bA;rw[List.map_eq_nil_iff,List.filter_eq_nil_iff,List.any_eq_false];exact Iff.rfl
 unfold fP pJ M.dZ;rw[h1];split
 ·rfl
 ·by_cases h:(List.range' 1 (m.ks.length - 1)).any (fun i=>m.cN i b old)=true
  ·rw[if_neg (fun e=>by rw[h2.1 e]at h;cases h),if_pos h]
  ·rw[if_pos (h2.2 (by simpa using h)),if_neg h]
end X
theorem pq {P:Program} {fn:Func} {p:Tmp} {t1:TypeId} (h:fn.results=#[.cell p t1]) (tmps:Array Value) (w:World) (a:Addr) (x:Value) (hp:tmps.getD p undef= .pointer (some a))
  (h1:P.underlying t1=some .string) (hx:w.cell? a=some x):(results fn tmps).run P w= .ok x w:=by
 have TG:tmps[p]?.getD undef= .pointer (some a):=by simpa using hp
 simp[results,h,TG,asAddr,loadVar,Sem.run_bind,isAgg,go_sem,run_underlying h1,hx]
theorem KR (b0:Nat) (w:World) (hw:b0≤w.heap.size) (W:World) (l:Nat) (o o':Obj) (hl:w.heap.size≤l) (h:W.heap[l]? =some o) (hc:o.isCells=false) (_:o.isWalk=false):Iq b0 W (W.putObj l o'):=by
 refine⟨?_,fun k q hq Mf _=> ?_,by simp,fun k _ hk=>hk⟩
 ·exact belowK_b hw W l o o' hl h hc ‹_›
 ·have:k≠l:=fun e=>by subst e;rw[h]at hq;injection hq with hq;subst hq;rw[hc]at Mf;cases Mf
  exact(World.putObj_heap_other this).trans hq
theorem KS (b0:Nat) (W:World) (k:Nat) (hk:k=b0∨k=b0+1) (v:Value):Iq b0 W (W.setCell ⟨k,0,none⟩ v):=by
 refine⟨(ai _ W).setCell (by show b0≤k;omega) _,fun j o ho _ hn=> ?_,by simp,fun _ _ hk=>hk⟩;rw[Below.heap_setCell _ _ _ j (by show j≠k;rintro rfl;exact hn hk)];exact ho
section
variable {w0 : World} {p pf g c size ct u : Nat} {nm : J.B} {ks : List X.Ky} {rows : List X.Row} {f : Fv} {w w' : World} {s s1 s2 : J.St} {fs : List (Nat × Obj)} {ok : Obj}
variable {b : J.B} {old : Option X.Row} {A Ao : Option Addr} {cb no co Bf Bo Bb : Nat} {vo : Value}
theorem Cg (w:World) (A:Option Addr) (n cb:Nat) (vo:Value):
  CallsIn Fence.wide 5 Tryz.prog 105 #[.pointer (some ⟨pf,0,none⟩), .slice A n cb, .slice Ao no co] w fun e w'=>e= .returned (.func (.func 136) #[] #[.pointer (some ⟨w.heap.size,0,none⟩), .pointer (some ⟨w.heap.size+1+1,0,none⟩), .pointer (some ⟨w.heap.size+1,0,none⟩)])∧w'=((w.alloc (aB pf)).alloc (aW (.slice A n cb))).alloc (aW (.slice Ao no co)):=by
 have _:=vo;refine callsIn_of_wp Tryz.func105 rfl trivial ?_ rfl;simp only[Tryz.ntmps105,List.size_toArray,List.length_cons,List.length_nil,Nat.reduceAdd,Nat.reduceSub,Array.replicate_succ,Array.replicate_zero,List.push_toArray,List.append_toArray,List.nil_append,List.cons_append]
 gi_wp2
 go_ret;exact⟨rfl,rfl⟩
structure Pg (w:World) (re st:J.B) (W:World):Prop where
 r:Boxed W w.heap.size 9 (.string ⟨re.toArray⟩)
 s:Boxed W (w.heap.size+1) 9 (.string ⟨st.toArray⟩)
 bel:Below w.heap.size w W
theorem sZ {β:Type} {re:J.B} (st:β→J.B) (B:Nat) (hB:w.heap.size≤B):OwnFrom (β:=β) B (fun x W=>Pg w re (st x) W):=fun x W W' row h hg hr=>
 ⟨boxed_own B _ _ _ x W W' row h.r hg hr,boxed_own B _ _ _ x W W' row h.s hg hr,ownFrom_below (aj _) hB x W W' row h.bel hg hr⟩
theorem Iu (h:At w0 p fs s w) (hF:(pf,av p nm size g ks.length c f)∈fs) (bq:(g,ok)∈fs) (hO:bI ok ks) (hcap:ks.length≤c) (hX:XF nm size ks rows ct s.now) (gQ:Src w0 p fs (.slice A b.length cb) b) (aT:X.bg ks size b=true) (sA:∀o,old=some o→X.bg ks size o.b=true) (hold:qz w0 p fs (.slice Ao no co) old):
  CallsIn Fence.wide 6 Tryz.prog 56 #[.pointer (some ⟨pf,0,none⟩), .slice A b.length cb, .slice Ao no co] w fun e w'=>e= .returned (.string ⟨(X.fP (X.bA ks rows b old (ks.length - 1))).toArray⟩)∧Below w.heap.size w w':=by
 obtain⟨w4,hw4⟩:∃w4,(w.alloc (aD ⟨#[]⟩)).alloc (aD ⟨#[48,48]⟩)=w4:=⟨_,rfl⟩;have hb4:Below w.heap.size w w4:=by
  rw[←hw4];exact((ai _ w).alloc (aj _) _).alloc (by simp) _
 have Bw:w4.heap.size=w.heap.size+2:=by rw[←hw4];simp
 have HS:=aa (Cg (pf:=pf) (Ao:=Ao) (no:=no) (co:=co) w4 A b.length cb (.slice Ao no co));obtain⟨w6,Ad⟩:∃w6,((w4.alloc (aB pf)).alloc (aW (.slice A b.length cb))).alloc (aW (.slice Ao no co))=w6:=⟨_,rfl⟩;have GR:Below w4.heap.size w4 w6:=by rw[←Ad];exact(((ai _ w4).alloc (aj _) _).alloc (by simp) _).alloc (by simp;omega) _
 have Ae:Below w.heap.size w w6:=hb4.trans (GR.mono hb4.size);have WD:Pg w [] (X.pJ []) w6:=by
  refine⟨?_, ?_,Ae⟩
  ·rw[←Ad,←hw4];exact((((Boxed.new w 9 (.string ⟨#[]⟩)).alloc _).alloc _).alloc _).alloc _
  ·have:=((((Boxed.new (w.alloc (aD ⟨#[]⟩)) 9 (.string ⟨#[48,48]⟩)).alloc (aB pf)).alloc (aW (.slice A b.length cb))).alloc (aW (.slice Ao no co)));rw[World.size_alloc]at this;rw[←Ad,←hw4];exact this
 have b6:∀x∈pI pf w4.heap.size (w4.heap.size+1+1) (w4.heap.size+1) A b.length cb (.slice Ao no co),w.heap.size+2≤x.1∧w6.heap[x.1]? =some x.2:=by
  intro x hx;simp only[pI,List.mem_cons,List.not_mem_nil,or_false]at hx;rcases hx with rfl|rfl|rfl
  ·refine⟨by show _≤w4.heap.size;omega, ?_⟩;rw[←Ad];exact((Boxed.new w4 35 (.pointer (some ⟨pf,0,none⟩))).alloc _).alloc _
  ·refine⟨by show _≤w4.heap.size+1+1;omega, ?_⟩;have:=Boxed.new ((w4.alloc (aB pf)).alloc (aW (.slice A b.length cb))) 40 (.slice Ao no co);rw[World.size_alloc,World.size_alloc]at this;rw[←Ad];exact this
  ·refine⟨by show _≤w4.heap.size+1;omega, ?_⟩;have:=(Boxed.new (w4.alloc (aB pf)) 40 (.slice A b.length cb)).alloc (aW (.slice Ao no co));rw[World.size_alloc]at this;rw[←Ad];exact this
 have hst:SeqStopsK Fence.wide 5 Tryz.prog 136 #[.pointer (some ⟨w4.heap.size,0,none⟩), .pointer (some ⟨w4.heap.size+1+1,0,none⟩), .pointer (some ⟨w4.heap.size+1,0,none⟩)] (fun x=>#[Ir x]) (Iq w.heap.size) (fun ys=>ys=X.bA ks rows b old (ks.length - 1)) (fun q=>q<+:X.bA ks rows b old (ks.length - 1)) (X.bA ks rows b old (ks.length - 1)).length w6:=by
  intro l Jv Jx W hW hJ _ hY h0;have Hq:∀x∈pI pf w4.heap.size (w4.heap.size+1+1) (w4.heap.size+1) A b.length cb (.slice Ao no co),w.heap.size+2≤x.1∧W.heap[x.1]? =some x.2:=fun x hx=>⟨(b6 x hx).1,(hW.block x.1 (ah (b6 x hx).2).1).trans (b6 x hx).2⟩;have WE:Below w.heap.size w W:=Ae.trans (hW.mono Ae.size);cases old with
  |none=>exact xA 5 (by omega) l h hF bq hO hcap hX gQ aT hold W WE hJ Hq h0 hY
  |some o=>exact xB 5 (by omega) l (sA o rfl) h hF bq hO hcap hX gQ aT hold W WE hJ Hq h0 hY
 have HST:=aa hst;have Af:=aa WD;clear hst WD h hX b6 GR Ae hb4 Bw hF bq hO hcap gQ aT sA hold;generalize X.bA ks rows b old (ks.length - 1)=cl at HST⊢;have HQ:Hid (∀W,Pg w (X.fP cl) [] W→Below w.heap.size w W):=aa (fun W h=>h.bel);generalize b.length=bn at*;refine callsIn_of_wp_marks Tryz.func56 rfl trivial ?_ rfl;simp only[Tryz.ntmps56,List.size_toArray,List.length_cons,List.length_nil,Nat.reduceAdd,Nat.reduceSub,Array.replicate_succ,Array.replicate_zero,List.push_toArray,List.append_toArray,List.nil_append,List.cons_append]
 gi_wp2_with fail
 refine⟨trivial,HS.out.mono ?_⟩;rintro e Y ⟨rfl,hY⟩;rw[Ad]at hY;subst hY;clear hw4 Ad HS HQ
 gi_wp2_with fail
 have JM:w.heap.size≤Y.heap.size:=Af.out.bel.size;refine wpIn_rangeFunc_ownF rfl (by omega) (gf:=136) (lb:=#[.pointer (some ⟨w4.heap.size,0,none⟩), .pointer (some ⟨w4.heap.size+1+1,0,none⟩), .pointer (some ⟨w4.heap.size+1,0,none⟩)]) rfl trivial (enters_of Tryz.func136 (by kernel_rfl) rfl)
  HST.out Iq.t (fun W l o o' hl h hc hw=>KR w.heap.size Y JM W l o o' hl h hc hw) (ai _ _) (fun _=>rfl)
  (fun pr W=>(∀y∈pr,y=true)∧Pg w [] (X.pJ pr) W)
  (fun c pr W=>c= .ret∧∃q,pr=q++[false]∧Pg w [50,50] (X.pJ q) W)
  (OwnFrom.and (vS _ _) (sZ _ _ JM))
  (fun c pr W W' row h hg hr=>by
   obtain⟨h1,q,h2,h3⟩:=h;exact⟨h1,q,h2,sZ (fun _=>X.pJ q) _ JM () W W' row h3 hg hr⟩)
  ⟨(fun _ h=>by cases h),Af.out⟩
  (fun x=>{tmps:=#[.pointer (some ⟨pf,0,none⟩), .slice A bn cb, .slice Ao no co,undef,undef,undef, .pointer (some ⟨w.heap.size,0,none⟩), .pointer (some ⟨w.heap.size+1,0,none⟩),Ir x, .pointer (some ⟨pf,0,none⟩), .slice A bn cb, .slice Ao no co, .func (.func 136) #[] #[.pointer (some ⟨w4.heap.size,0,none⟩), .pointer (some ⟨w4.heap.size+1+1,0,none⟩), .pointer (some ⟨w4.heap.size+1,0,none⟩)],Ir x,undef,undef,undef],defers:=[]}) ?assign ?body ?done ?stop
 case assign=>
  intro l x W K hK
  gi_wp2
  exact hK
 case body=>
  rintro l pr x W ⟨DZ,hI⟩ hlt;have h1:=hI.r.cell;have h2:=hI.s.cell;have z1:=hI.r.frozen;have z2:=hI.s.frozen;have HI:=aa hI;have HP:=aa DZ;clear hI DZ hlt;cases x
  ·gi_wp2
   exact⟨KeepsOthers.setCell _ _ _,rfl,pr,rfl,HI.out.r.set _,HI.out.s.other (by omega) _,HI.out.bel.setCell (aj _) _⟩
  ·gi_wp2
   refine⟨KeepsOthers.setCell _ _ _,KS _ _ _ (.inr rfl) _,fun y hy=> ?_,HI.out.r.other (by omega) _, ?_,HI.out.bel.setCell (by show w.heap.size≤w.heap.size+1;omega) _⟩
   ·rcases List.mem_append.1 hy with h|h
    ·exact HP.out y h
    ·simpa using h
   ·rw[X.ER];exact HI.out.s.set _
 case done=>
  rintro D ys W hD rfl ⟨DZ,hI⟩ hK;have h1:=hI.r.cell;have h2:=hI.s.cell;have z1:=hI.r.frozen;have z2:=hI.s.frozen;have PT:Pg w (X.pJ ys) (X.pJ ys) (W.setCell ⟨w.heap.size,0,none⟩ (.string ⟨(X.pJ ys).toArray⟩)):=⟨hI.r.set _,hI.s.other (by omega) _,hI.bel.setCell (aj _) _⟩;have Yi:w.heap.size+1<D:=aq Af.out.s.lt hD;have hK2:(W.setCell ⟨w.heap.size,0,none⟩ (.string ⟨(X.pJ ys).toArray⟩)).heap[D]? =some (.deferred (some [])):=by
   rw[Below.heap_setCell _ _ _ D (by show D≠w.heap.size;omega)];exact hK
  have hall:=X.Ce DZ;have D1:=aa PT;have PU:=aa hK2;have Up:=aa hall;clear hI PT hK2 hall DZ
  gi_wp2
  refine⟨by simp, .inl ⟨_,_,rfl,run_takeDeferred PU.out, ?_⟩⟩;have hF:=sZ (β:=Unit) (fun _=>X.pJ ys) Y.heap.size JM () _ _ (some D) D1.out (grownBy_putObj' _ D (.deferred none)) (fun r e=>by cases e;exact⟨hD,_,PU.out,rfl⟩);refine⟨_,pq rfl _ _ _ _ rfl Tryz.underlying9 hF.r.cell, ?_,hF.bel⟩;rw[Up.out]
 case stop=>
  rintro D c pr W hD Gu ⟨rfl,q,rfl,hI⟩ hK;have hb:=X.Cf Gu
  gi_wp2
  refine⟨by simp, .inl ⟨_,_,rfl,run_takeDeferred hK, ?_⟩⟩;have hF:=sZ (β:=Unit) (fun _=>X.pJ q) Y.heap.size JM () _ _ (some D) hI (grownBy_putObj' _ D (.deferred none)) (fun r e=>by cases e;exact⟨hD,_,hK,rfl⟩);refine⟨_,pq rfl _ _ _ _ rfl Tryz.underlying9 hF.r.cell, ?_,hF.bel⟩;rw[hb]
theorem my (h:At w0 p fs s w) (hF:(pf,av p nm size g ks.length c f)∈fs) (bq:(g,ok)∈fs) (hO:bI ok ks) (hcap:ks.length≤c) (hX:XF nm size ks rows ct s.now) (gQ:Src w0 p fs (.slice A b.length cb) b) (aT:X.bg ks size b=true) (sA:∀o,old=some o→X.bg ks size o.b=true) (hold:qz w0 p fs (.slice Ao no co) old):
  Calls Tryz.prog 56 #[.pointer (some ⟨pf,0,none⟩), .slice A b.length cb, .slice Ao no co] w fun e w'=>e= .returned (.string ⟨(X.fP (X.bA ks rows b old (ks.length - 1))).toArray⟩)∧Below w.heap.size w w':=
 callsIn_wide.1 (Iu h hF bq hO hcap hX gQ aT sA hold)
end
end Go.Proofs.YtipljcmmokaokaaGreat
namespace Go.Proofs.YtipljcmmokaokaaGreat
open Go.RowKit Go.Lib Go.Maps Go.WideMaps Go.Sort
set_option maxRecDepth 100000
section
variable {w0 : World} {p pf g c size ct u : Nat} {nm : J.B} {ks : List X.Ky} {rows : List X.Row} {f : Fv} {w w' : World} {s s1 s2 : J.St} {fs : List (Nat × Obj)} {ok : Obj}
variable {old : List (J.B × J.B)}
structure Ph (w0:World) (p:Nat) (gs:List (Nat×Obj)) (s:J.St) (k:Nat) (W:World):Prop where
 at_:At w0 p gs (X.opened s (X.iT ((s.now.map (·.1)).take k)) (s.now.drop k)) W
 inv:J.Inv True (X.opened s (X.iT ((s.now.map (·.1)).take k)) (s.now.drop k))
theorem Iw (hs:X.pg u old s) {gs:List (Nat×Obj)} (h:At w0 p gs (X.opened s [] s.now) w):Ph w0 p gs s 0 w:=⟨h,X.nb hs⟩
theorem Ix (hs:X.pg u old s) {gs:List (Nat×Obj)} {W:World} {k n:Nat} (h:Ph w0 p gs s k W) (hk:k<(s.now.map (·.1)).length) (fR:∀k∈s.now.map (·.1),k.length≤n) (hn:n≤300) (hm:s.now.length≤10000):
  Calls Tryz.prog 48 #[.pointer (some ⟨p,0,none⟩),encStr ((s.now.map (·.1))[k])] W fun e w'=>e= .returned (.int .i64 0)∧Ph w0 p gs s (k+1) w':=by
 have QO:k<s.now.length:=by simpa using hk
 have hd:s.now.drop k=s.now[k]::s.now.drop (k+1):=List.drop_eq_getElem_cons QO;have oc:(s.now.map (·.1))[k]=(s.now[k]).1:=List.getElem_map _;have ht:(s.now.map (·.1)).take (k+1)=(s.now.map (·.1)).take k++[(s.now[k]).1]:=by rw[List.take_succ_eq_append_getElem hk,oc]
 have l9:(s.now[k]).1∈s.now.map (·.1):=List.mem_map_of_mem (List.getElem_mem QO);have hlen:=X.qp ((s.now.map (·.1)).take k) 300 (fun x hx=>au (fR x (List.mem_of_mem_take hx)) hn);have Sb:((s.now.map (·.1)).take k).length≤10000:=by rw[List.length_take,List.length_map];omega
 have hi:=h.inv;have ha:=h.at_;rw[hd]at hi ha;obtain⟨g1,g2⟩:=X.vW hs ((s.now.map (·.1)).take k) (s.now.drop (k+1)) s.now[k] hi (by omega);rw[oc];refine(at_delete ha (s.now[k]).1 (by have:=fR _ l9;omega) 0 g1).mono ?_;rintro e w' ⟨rfl,h2⟩;exact⟨rfl,⟨by rw[ht];exact h2,by rw[ht];exact g2⟩⟩
theorem KT (hs:X.pg u old s) (hu:u≤340) {gs:List (Nat×Obj)} {W:World} {a:J.B} {v:Value} {n:Nat} (h:Ph w0 p gs s (s.now.map (·.1)).length W) (fR:∀k∈s.now.map (·.1),k.length≤n) (lf:nm.length≤100) (ES:(3+n)*s.now.length+9+nm.length+a.length≤11900) (Ch:a.length≤8192) (hv:Sl W bL v a):
  ∃s1,(Calls Tryz.prog 49 #[.pointer (some ⟨p,0,none⟩), .string ⟨(X.own nm).toArray⟩,v] W fun e w'=>e= .returned (.int .i64 0)∧At w0 p gs s1 w')∧X.Tx u s s1 [(X.own nm,a)]∧s1=X.opened s (X.iT (s.now.map (·.1))++[⟨X.own nm,a,false⟩]) [(X.own nm,a)]:=by
 have hi:=h.inv;have ha:=h.at_;rw[List.take_length,List.length_map,List.drop_length]at hi ha;have hlen:=X.qp (s.now.map (·.1)) n fR;rw[List.length_map]at hlen;have M7:=X.kW nm;have ho:X.own nm≠[]:=fun e=>by rw[e]at M7;simp at M7
 obtain⟨g1,g2⟩:=X.vX hs hu (s.now.map (·.1)) (X.own nm) a hi ho (by omega) (by omega) (by omega);exact⟨_,pB ha rfl (X.own nm) a v ho (by omega) (by omega) hv 0 g1,g2,rfl⟩
theorem wB {n:Nat} (hs:X.pg u old s) (hu:u≤340) (h:At w0 p fs (X.opened s [] s.now) w) (hf:(pf,av p nm size g ks.length c f)∈fs) (bq:(g,ok)∈fs) (hO:bI ok ks) (bh:X.fQ ks size) (Bf Bo:Nat) (hF:(Bf,aB pf)∈fs) (hB:(Bo,aD ⟨(X.own nm).toArray⟩)∈fs) (lf:nm.length≤100)
  (hk:keysOf s.now ⟨(nm++[0]).toArray⟩=s.now.map (·.1)) (fR:∀k∈s.now.map (·.1),k.length≤n) (hn:n≤300) (ES:(3+n)*s.now.length+9+nm.length+(X.attr size ks).length≤11900):
  Calls Tryz.prog 46 #[.pointer (some ⟨Bf,0,none⟩), .pointer (some ⟨Bo,0,none⟩)] w fun e w'=>(∃v,e= .returned v)∧At w0 p fs (X.opened s (X.iT (s.now.map (·.1))++[⟨X.own nm,X.attr size ks,false⟩]) [(X.own nm,X.attr size ks)]) w'∧
   X.Tx u s (X.opened s (X.iT (s.now.map (·.1))++[⟨X.own nm,X.attr size ks,false⟩]) [(X.own nm,X.attr size ks)]) [(X.own nm,X.attr size ks)]:=by
 have wX:s.now.length≤10000:=by
  have:=hs.many;omega
 have hrow:=h.get hf;have b6:=h.get hF;have uw:=fun w1 (hb:Below w.heap.size w w1)=>(kX (h.below hb) ⟨(nm++[0]).toArray⟩ (show s.now.length≤1000000 by omega));rw[show(X.opened s [] s.now).now=s.now from rfl,hk]at uw;have dK:=aa uw;have uG:=aa h;have HF:=aa hf;have Cb:=aa hF;have WG:=aa hB;have po:=aa fR;have HS:=aa hs;have HR:=aa hrow;have jG:=aa b6;have HU:=aa (fun W=>ue nm W (by omega));have nO:=aa (fun lh t (hs:∀x∈fs,x∈lh) W (hh:At w0 p lh t W)=>pG nm size g c ks W (hO.2 W g (hh.get (hs _ bq))) bh);have HN:=aa hn;have sD:=aa lf;have O9:=aa ES;have Uq:Hid ((X.attr size ks).length≤8192):=aa (by rw[X.jE];have:=bh.one;omega);have YJ:=aa hu;have WH:=aa wX;generalize(⟨(nm++[0]).toArray⟩:ByteArray)=na at dK HU;clear h hf hF hB hk fR hs uw bq hO bh hn ES lf hu;go_enter Tryz.func46,Tryz.ntmps46;go_upto_region 0 with fail;refine aL (.rd 0 (.rd 1 (.rd 2 (.rd 3 (.rd 4 (.rd 5 (.rd 6 (.rd 7 (.rd 8 (.rd 12 (.wr 9 (.wr 10 (.rd 11 .fin))))))))))))) (fun w'=>w'.heap[pf]? =some (av p nm size g ks.length c f)∧w'.heap[Bf]? =some (aB pf)) (by kernel_rfl) (by kernel_rfl) (fun c a d v w h=>by cases d<;>exact h) ⟨hrow,b6⟩ ?_;repeat
  refine aw (v:= ?_) (by rfl) (by rfl) (fun w' hS=> ?_) (fun K hK=> ?_);rotate_left
  ·have hc:=fun j=>ag w' pf j _ _ _ hS.1;have hcb:=fun j=>ag w' Bf j _ _ _ hS.2;clear hS;go_simp;try with_reducible rfl
  go_simp;refine hK _ ?_;clear hK K
 refine wpPm_write (by rfl) (fun K hK=> ?_);go_simp;refine(HU.out _).mono ?_;rintro e w1 ⟨rfl,xU⟩;subst xU;refine hK.out _ _ (fun w'=>w'.heap[pf]? =some (av p nm size g ks.length c f)∧w'.heap[Bf]? =some (aB pf)) (fun _ h=>h) ⟨hrow,b6⟩ ?_;clear hK K;refine wpPm_write (by rfl) (fun K hK=> ?_);go_simp;refine(dK.out _ ((ai _ w).drew)).mono ?_;rintro e w1 ⟨A,rfl,hst,ha1,hb1,sN⟩;have QP:=ha1.get HF.out;have AQ:=ha1.get Cb.out;refine hK.out _ _ (fun w'=>w'.heap[pf]? =some (av p nm size g ks.length c f)∧w'.heap[Bf]? =some (aB pf)) (fun _ h=>h) ⟨QP,AQ⟩ ?_;clear hK K;repeat
  refine aw (v:= ?_) (by rfl) (by rfl) (fun w' hS=> ?_) (fun K hK=> ?_);rotate_left
  ·have hc:=fun j=>ag w' pf j _ _ _ hS.1;have hcb:=fun j=>ag w' Bf j _ _ _ hS.2;clear hS;go_simp;try with_reducible rfl
  go_simp;refine hK _ ?_;clear hK K
 show wpList _ _ _ _ _ _;obtain⟨gs,Ex,Mj,zl⟩:=wo (uG.out.below ((ai _ w).drew)) hb1 hst sN;have sV:=aa Ex;have HST:=aa zl;have oF:=aa (Iw HS.out Mj);have xa:(s.now.map (·.1)).length=s.now.length:=List.length_map ..;try rw[xa]
 have C8:=aa xa;clear hst ha1 hb1 sN Ex Mj zl QP AQ hrow b6 HR jG uG dK HU xa;go_wp2;go_loopw [16] (fun i W=>∃k:Nat,k≤s.now.length∧i= .int .i64 k∧Hid (Ph w0 p gs s k W)) (fun i _=>s.now.length - (intOf i).toNat)
 case atStart=>exact⟨0,Nat.zero_le _,rfl,oF⟩
 case round=>
  clear oF;obtain⟨k,hk,rfl,HI⟩:=hrel;by_cases hlt:k<s.now.length
  ·have N3:k<(s.now.map (·.1)).length:=(by rw[C8.out];exact hlt);obtain⟨g4,rfl,z7,uy⟩:=HST.out _ _ HI.out.at_ (by omega);have gX:=uy k N3;have hc:=fun j=>ag wr pf j _ _ _ (HI.out.at_.get (sV.out _ HF.out));have hcb:=fun j=>ag wr Bf j _ _ _ (HI.out.at_.get (sV.out _ Cb.out));have NI:=aa (Ix HS.out HI.out N3 po.out HN.out WH.out);have a7:=aa hlt;have iD:Hid (k≤1000000):=aa (by have:=WH.out;omega);generalize(s.now.map (·.1))[k]=ky at gX NI;clear uy z7 HI N3;go_wp2_with fail;refine NI.out.mono ?_;rintro e w3 ⟨rfl,hi⟩;have HI:=aa hi;clear hi NI gX hc hcb;go_wp2;go_roundw
   case rel=>exact⟨k+1,a7.out,by first|exact br k iD.out|exact aX k,HI⟩
   case measure=>first|exact a6 a7.out iD.out|exact aV a7.out
  ·obtain rfl:k=s.now.length:=(by omega);have QP:=HI.out.at_.get (sV.out _ HF.out);have AQ:=HI.out.at_.get (sV.out _ Cb.out);have how:=HI.out.at_.get (sV.out _ WG.out);go_upto_region 5 with fail;refine aA 10 (.rd 0 (.rd 1 (.rd 2 (.rd 3 (.rd 4 (.rd 5 (.rd 6 (.rd 7 (.rd 8 (.wr 9 .fin)))))))))) (fun w'=>w'.heap[pf]? =some (av p nm size g ks.length c f)∧w'.heap[Bf]? =some (aB pf)∧w'.heap[Bo]? =some (aD ⟨(X.own nm).toArray⟩)) (by kernel_rfl) (by kernel_rfl) (fun c a d v w h=>by cases d<;>exact h) ⟨QP,AQ,how⟩ ?_;repeat
    refine aw (v:= ?_) (by rfl) (by rfl) (fun w' hS=> ?_) (fun K hK=> ?_);rotate_left
    ·have hc:=fun j=>ag w' pf j _ _ _ hS.1;have hcb:=fun j=>ag w' Bf j _ _ _ hS.2.1;have ZM:=fun j=>ag w' Bo j _ _ _ hS.2.2;clear hS;go_simp;try with_reducible rfl
    go_simp;refine hK _ ?_;clear hK K
   refine wpPm_write (by rfl) (fun K hK=> ?_);go_simp;refine(nO.out _ _ sV.out _ (HI.out.at_.below ((ai _ _).drew))).mono ?_;rintro e w4 ⟨v,rfl,hv,hb4⟩;have QQ:Ph w0 p gs s (s.now.map (·.1)).length w4:=(by rw[C8.out];exact⟨HI.out.at_.below (((ai _ wr).drew).trans hb4),HI.out.inv⟩);have kz:=qc hv;obtain⟨s1,hput,mL,rfl⟩:=KT HS.out YJ.out QQ po.out sD.out O9.out Uq.out kz;refine hK.out _ _ (fun w'=>w'.heap[pf]? =some (av p nm size g ks.length c f)∧w'.heap[Bf]? =some (aB pf)∧w'.heap[Bo]? =some (aD ⟨(X.own nm).toArray⟩)) (fun _ h=>h) ⟨QQ.at_.get (sV.out _ HF.out),QQ.at_.get (sV.out _ Cb.out),QQ.at_.get (sV.out _ WG.out)⟩ ?_;clear hK K;have sf:=aa hput;have rC:=aa mL;clear hv hb4 QQ kz hput QP AQ how HI mL;show wpList _ _ _ _ _ _;go_wp2_with fail;refine sf.out.mono ?_;rintro e w5 ⟨rfl,h5⟩;have H5:=aa (h5.less sV.out);clear h5 sf;go_wp2;go_end0;exact⟨⟨_,rfl⟩,H5.out,rC.out⟩
end
section
variable {w0 : World} {p pf g c size ct u : Nat} {nm : J.B} {ks : List X.Ky} {rows : List X.Row} {f : Fv} {w w' : World} {s s1 s2 : J.St} {fs : List (Nat × Obj)} {ok : Obj}
variable {old : List (J.B × J.B)}
theorem At.iN {F:Obj} (h:At w0 p ((pf,F)::fs) s w) (hf:∀x∈fs,x.1≠pf) (o:Obj):At w0 p ((pf,F)::(w.heap.size,o)::fs) s (w.alloc o)∧∀x∈(w.heap.size,o)::fs,x.1≠pf:=by
 have hl:pf<w.heap.size:=h.lt ae;refine⟨(h.more o).less (fun x hx=> ?_),fun x hx=> ?_⟩
 ·rcases ak hx with rfl|hx
  ·exact af _ ae
  ·rcases ak hx with rfl|hx
   ·exact ae
   ·exact af _ (af _ hx)
 ·rcases ak hx with rfl|hx
  ·show w.heap.size≠pf;omega
  ·exact hf x hx
theorem wC {F:Obj} {b b':Nat×Obj} (h:At w0 p ((pf,F)::b::b'::fs) s w):At w0 p ((pf,F)::fs) s w:=h.less (fun x hx=>by
 rcases ak hx with rfl|hx
 ·exact ae
 ·exact af _ (af _ (af _ hx)))
theorem Mz {F:Obj} {b:Nat×Obj} (h:At w0 p ((pf,F)::b::fs) s w):At w0 p ((pf,F)::fs) s w:=h.less (fun x hx=>by
 rcases ak hx with rfl|hx
 ·exact ae
 ·exact af _ (af _ hx))
theorem ET (h:At w0 p ((pf,av p nm size g ks.length c f)::fs) s w) (hf:∀x∈fs,x.1≠pf) (md:Nat) (hm:md<1∨4<md) (od:Bool):
  Calls Tryz.prog 12 #[.pointer (some ⟨pf,0,none⟩), .int .u8 (md:Nat), .bool od] w fun e w'=>e= .returned (.string ⟨#[51,48]⟩)∧At w0 p ((pf,av p nm size g ks.length c f)::fs) s w':=by
 obtain⟨hB,_⟩:=h.iN hf (aB pf);have HR:=aa (eZ (hB.get ae));have HB:=aa (Mz hB);clear h hf hB;by_cases h1:md<1
 ·have m1:(md:Int)<1:=(by omega);clear hm;go_enter Tryz.func12,Tryz.ntmps12;go_wp2_with fail;refine HR.out.mono ?_;rintro e w1 ⟨rfl,hw⟩;subst hw;clear HR;go_wp2;go_ret;exact⟨rfl,HB.out⟩
 ·have m1:¬(md:Int)<1:=(by omega);have m2:(4:Int)<(md:Nat):=(by omega);clear hm;go_enter Tryz.func12,Tryz.ntmps12;go_wp2_with fail;refine HR.out.mono ?_;rintro e w1 ⟨rfl,hw⟩;subst hw;clear HR;go_wp2;go_ret;exact⟨rfl,HB.out⟩
theorem vA (h:At w0 p ((pf,av p nm size g ks.length c f)::fs) s w) (hf:∀x∈fs,x.1≠pf) (ho:s.opn=false) (md:Nat) (uD:1≤md∧md≤4) (od:Bool) (kq:f.mode≠0):
  Calls Tryz.prog 12 #[.pointer (some ⟨pf,0,none⟩), .int .u8 (md:Nat), .bool od] w fun e w'=>e= .returned (.string ⟨#[52,49]⟩)∧At w0 p ((pf,av p nm size g ks.length c f)::fs) (J.cC (J.cT s)) w':=by
 have Fu:((f.mode:Int) !=0)=true:=by simp;omega
 have Sd:¬f.mode=0:=kq;obtain⟨hB,hf2⟩:=h.iN hf (aB pf);have HR:=aa (eZ (hB.get ae));have HI:=aa (mv hB ae ho);have rU:=aa hf2;have m1:¬(md:Int)<1:=by omega
 have m2:¬(4:Int)<(md:Nat):=by omega
 clear h hf ho hB hf2 uD;go_enter Tryz.func12,Tryz.ntmps12;go_wp2_with fail;refine HR.out.mono ?_;rintro e w1 ⟨rfl,hw⟩;subst hw;clear HR;go_wp2_with fail;refine HI.out.mono ?_;rintro e w2 ⟨rfl,ha⟩;have HA:=aa ha;have hc:=fun j=>ag w2 pf j _ _ _ (ha.get ae);have b6:=fun j=>ag w2 w.heap.size j _ _ _ (ha.get (af _ ae));clear ha HI;go_wp2;go_ret;exact⟨rfl,Mz HA.out⟩
end
end Go.Proofs.YtipljcmmokaokaaGreat
