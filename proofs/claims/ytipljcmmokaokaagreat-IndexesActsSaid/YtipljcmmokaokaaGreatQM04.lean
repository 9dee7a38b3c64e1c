import Derived.Test.YtipljcmmokaokaaGreatQM03
import Derived.Test.YtipljcmmokaokaaGreatQShelf
import Derived.Test.YtipljcmmokaokaaGreatChecked
import Derived.ProofKit
import Derived.OpenShut
import Derived.Stop.Joined
import Derived.MakeChecks
import Derived.ChangeMaps
import Derived.LaidMore
import Derived.Deep.Slices
set_option linter.unusedVariables false
set_option linter.unusedSimpArgs false
namespace Go.Proofs.YtipljcmmokaokaaGreat
open Go.RowKit
set_option maxRecDepth 100000
def dt (w:World) (e A:Nat) (l:List UInt8):Prop:=
 ∃C m,w.heap[A]? =some (.cells C e (m,m+1))∧l.length≤m∧∀j (h:j<l.length),C[j]? =some (.int .u8 (l[j].toNat:Int))
theorem dt.cell {w:World} {e A:Nat} {l:List UInt8} (h:dt w e A l) (j:Nat) (hj:j<l.length):w.cell? ⟨A,j,none⟩=some (.int .u8 (l[j].toNat:Int)):=by
 obtain⟨C,m,h1,h2,h3⟩:=h;simp only[World.cell?,h1];exact h3 j hj
theorem dt.frozen {w:World} {e A:Nat} {l:List UInt8} (h:dt w e A l) (j:Nat) (hj:j<l.length):w.frozen? ⟨A,j,none⟩=false:=by
 obtain⟨C,m,h1,h2,h3⟩:=h;simp only[World.frozen?,h1];have:¬m≤j:=by omega
 simp[this]
theorem dt.below {w w':World} {e A B:Nat} {l:List UInt8} (h:dt w e A l) (hb:Below B w w') (hA:A<B):dt w' e A l:=by
 obtain⟨C,m,h1,h2,h3⟩:=h;exact⟨C,m,(hb.block A hA).trans h1,h2,h3⟩
theorem dt.lt {w:World} {e A:Nat} {l:List UInt8} (h:dt w e A l):A<w.heap.size:=by
 obtain⟨C,m,h1,_,_⟩:=h;exact(ai h1).1
theorem dt.same {w w':World} {e A:Nat} {l:List UInt8} (h:dt w e A l) (hb:w'.heap[A]? =w.heap[A]?):dt w' e A l:=by
 obtain⟨C,m,h1,h2,h3⟩:=h;exact⟨C,m,hb.trans h1,h2,h3⟩
theorem dt.alloc {w:World} {e A:Nat} {l:List UInt8} (h:dt w e A l) (o:Obj):dt (w.alloc o) e A l:=
 h.same (Below.heap_alloc w o A h.lt)
theorem dt.set {w:World} {e A:Nat} {l:List UInt8} (h:dt w e A l) (j:Nat) (hj:j<l.length) (b:UInt8):dt (w.setCell ⟨A,j,none⟩ (.int .u8 (b.toNat:Int))) e A (l.set j b):=by
 obtain⟨C,m,h1,h2,h3⟩:=h;have hC:j<C.size:=by
  have:=h3 j hj;exact(ai this).1
 refine⟨C.setIfInBounds j (.int .u8 (b.toNat:Int)),m, ?_,by simpa using h2, ?_⟩
 ·simp only[World.setCell,Array.getElem?_modify,h1];simp
 ·intro i hi;rw[List.getElem_set];simp only[Array.getElem?_setIfInBounds];by_cases e:j=i
  ·subst e;simp[hC]
  ·simp only[e,if_false];exact h3 i (by simpa using hi)
end Go.Proofs.YtipljcmmokaokaaGreat
namespace Go.Proofs.YtipljcmmokaokaaGreat
open Go.RowKit Go.Lib Go.Maps Go.WideMaps Go.Sort
set_option maxRecDepth 100000
theorem aM {R:World→Prop} {W:World} (F:World→Prop) (hF:F W) (h:∀X,F X→R X):R W:=h W hF
theorem fT (a b:J.B):(⟨a.toArray⟩:ByteArray)++⟨b.toArray⟩=⟨(a++b).toArray⟩:=by
 apply ByteArray.ext;rw[ByteArray.data_append];simp
def nU (n:Int):Nat:=(n%4294967296).toNat
theorem lN {n:Nat} (h:n<4294967296):nU n=n:=by unfold nU;omega
theorem qq (k:Nat) (z:Int) (h:z=(k:Int)%256):(Value.int .u8 z)=u8 (UInt8.ofNat k):=by
 unfold u8;rw[UInt8.toNat_ofNat',h];rfl
theorem ui (w:World) (l:List UInt8) (t:TypeId) (fr:Nat×Nat) (j:Nat) (h:j<l.length):(w.alloc (.cells (dx l).toArray t fr)).cell? ⟨w.heap.size,j,none⟩=some (u8 l[j]):=by
 unfold World.cell?;rw[heap_alloc_new];simp[dx,h]
theorem KE (a b:Nat) (ha:a<4611686018427387904) (hb:b<4611686018427387904):bits .or .i64 (a:Int) (b:Int)=((a|||b:Nat):Int):=by
 have hx:a|||b<2^62:=Nat.or_lt_two_pow (by omega) (by omega)
 have h1:(BitVec.ofInt 64 (a:Int)).toNat=a:=by
  rw[BitVec.ofInt_natCast,BitVec.toNat_ofNat];exact Nat.mod_eq_of_lt (by omega)
 have h2:(BitVec.ofInt 64 (b:Int)).toNat=b:=by
  rw[BitVec.ofInt_natCast,BitVec.toNat_ofNat];exact Nat.mod_eq_of_lt (by omega)
 show IntKind.i64.wrap ((BitVec.ofInt 64 (a:Int)|||BitVec.ofInt 64 (b:Int)).toNat:Int)=_;rw[BitVec.toNat_or,h1,h2];rw[IntKind.wrap_i64];omega
theorem KF (x y i:Nat) (h:y<2^i):(x*2^i)|||y=x*2^i+y:=by
 rw[←Nat.shiftLeft_eq,Nat.shiftLeft_add_eq_or_of_lt h]
theorem uj (x y i:Nat) (h:y<2^i) (hx:x*2^i<4611686018427387904) (hy:y<4611686018427387904):bits .or .i64 ((x*2^i:Nat):Int) (y:Int)=((x*2^i+y:Nat):Int):=by
 rw[KE _ _ hx hy,KF x y i h]
theorem wrap_small (x:Nat) (h:x<4611686018427387904):IntKind.i64.wrap (x:Int)=x:=by rw[IntKind.wrap_i64];omega
theorem KG (a b c d:Nat) (ha:a<256) (hb:b<256) (hc:c<256) (hd:d<256):
  bits .or .i64 (bits .or .i64 (bits .or .i64 (IntKind.i64.wrap (IntKind.i64.wrap (a:Int)*16777216)) (IntKind.i64.wrap (IntKind.i64.wrap (b:Int)*65536))) (IntKind.i64.wrap (IntKind.i64.wrap (c:Int)*256))) (IntKind.i64.wrap (d:Int))=((a*16777216+b*65536+c*256+d:Nat):Int):=by
 rw[wrap_small a (by omega),wrap_small b (by omega),wrap_small c (by omega),wrap_small d (by omega)];rw[show(a:Int)*16777216=((a*256*2^16:Nat):Int) by omega,show(b:Int)*65536=((b*65536:Nat):Int) by omega,show(c:Int)*256=((c*256:Nat):Int) by omega];rw[wrap_small (a*256*2^16) (by omega),wrap_small (b*65536) (by omega),wrap_small (c*256) (by omega)];have e1:bits .or .i64 ((a*256*2^16:Nat):Int) ((b*65536:Nat):Int)=(((a*256+b)*2^16:Nat):Int):=by
  rw[KE _ _ (by omega) (by omega),show a*256*2^16=a*2^24 by omega,KF a (b*65536) 24 (by omega)];omega
 have e2:bits .or .i64 (((a*256+b)*2^16:Nat):Int) ((c*256:Nat):Int)=(((a*65536+b*256+c)*2^8:Nat):Int):=by
  rw[uj _ _ 16 (by omega) (by omega) (by omega)];omega
 rw[e1,e2,uj _ _ 8 (by omega) (by omega) (by omega)];omega
theorem Fo (X:World) (size:Nat):By (X.alloc (.cells (dx (R.bI size)).toArray 5)) bF (some ⟨X.heap.size,0,none⟩) 4 (R.bI size):=
 ⟨rfl,λ_=>⟨_,_,rfl,by simp,λh=>h,λj hj=>by rw[Nat.zero_add];exact ui X _ _ _ j hj⟩⟩
end Go.Proofs.YtipljcmmokaokaaGreat
namespace Go.Proofs.YtipljcmmokaokaaGreat
open Go
section
variable {P : Program} {ops : Array Oper} {Q : Exit → Act → World → Prop} {md : Region.Mode} {S : World → Prop}
theorem xM {n i:Nat} {oi:Oper} {v:Value} (hi:ops[i]? =some oi) (ep:∀(j:Nat) (o:Oper) cs b,ops[j]? =some o→o.op≠ .select cs b)
  (hQ:∀c a w,Q (.panic c) (a.put oi.dst v) w→Q (.panic c) a w) (hn:n=ops.size):
  ∀(fuel:Nat) (listed:Array Bool) (a:Act) (w:World),HeadInv md ops n listed→
   (∀j oj,ops[j]? =some oj→j≠i→listed.getD j true=false→(∀e∈oj.after,Region.binds md e=true→e.on≠i)→oi.apart ops oj=true)→
   i∈Region.ready md ops listed→YieldsIf P ops S oi v a→S w→
   wpAnyT P md ops Q S n fuel (listed.setIfInBounds i true) (a.put oi.dst v) w→wpAnyT P md ops Q S n (fuel+1) listed a w:=by
 intro fuel
 induction fuel with
 |zero=>
  intro listed a w _ _ hr hy hS H;refine⟨λh=>(by rw[h]at hr;cases hr),λj hj=> ?_⟩;by_cases lf:j=i
  ·subst lf;exact hy.wpOp hi hS ⟨λ_=>hS,H⟩
  ·have:=ready_mono hj lf;rw[H.1]at this;cases this
 |succ fuel ih=>
  intro listed a w inv nQ hr hy hS H;refine⟨λh=>(by rw[h]at hr;cases hr),λj hj=> ?_⟩;have Cn:j<n:=by
   obtain⟨_,oj,CS,_⟩:=mem_ready.1 hj;rw[hn];exact(ai CS).1
  by_cases lf:j=i
  ·subst lf;exact hy.wpOp hi hS ⟨λ_=>hS,H⟩
  ·have h1:=H.2 j (ready_mono hj lf);obtain⟨zU,oj,CS,hall⟩:=mem_ready.1 hj;have Kv:∀e∈oj.after,Region.binds md e=true→e.on≠i:=λe he hb heq=>by
    have h1:=hall e he hb;rw[heq,getD_both (mem_ready.1 hr).1]at h1;cases h1
   have h2:=wpOp_putIf CS (nQ j oj CS lf zU Kv) (λcs b=>ep i oi cs b hi) (λcs b=>ep j oj cs b CS) hQ hy h1;have ue:∀k ok,ops[k]? =some ok→k≠i→(listed.setIfInBounds j true).getD k true=false→
     (∀e∈ok.after,Region.binds md e=true→e.on≠i)→oi.apart ops ok=true:=λk ok hk lg Jt hno=>by
    refine nQ k ok hk lg ?_ hno;by_cases hjk:j=k
    ·subst hjk;exact zU
    ·rw[getD_set_ne true hjk]at Jt;exact Jt
   refine wpOp_mono (λa' w' h3=>⟨λ_=>h3.2.1 Cn,ih (listed.setIfInBounds j true) a' w' (inv.set hj Cn) ue (ready_mono hr (Ne.symm lf)) h3.1 (h3.2.1 Cn) ?_⟩) h2;rw[Array.setIfInBounds_comm _ _ lf];exact h3.2.2
theorem lO {n:Nat} {tl:List Oper} (ep:Region.noSelect ops=true) (hn:n=ops.size) (hQ:∀c a d v w,Q (.panic c) (Act.put a d v) w→Q (.panic c) a w) (jO:∀j,tl[j]? =ops[n+j]?):
  ∀(dA:Pl) (S:World→Prop) (listed:Array Bool) (a:Act) (w:World),HeadInv md ops n listed→Fl md ops n tl.length dA listed=true→S w→
   wpPm P ops Q (λa w=>wpList P ops Q tl a w) dA S a w→wpAnyT P md ops Q S n (dA.len+tl.length) listed a w
 | .fin,S,listed,a,w,inv,hB,hS,h=>by
  rw[Pl.len,Nat.zero_add];exact fR tl n listed a w (aq _) jO hB h
 | .rd i t,S,listed,a,w,inv,hB,hS,h=>by
  simp only[Fl,Bool.and_eq_true,decide_eq_true_eq]at hB;obtain⟨⟨⟨cd,hr⟩,hf⟩,CT⟩:=hB;obtain⟨o,v,ho,hy,hk⟩:=h;have lL:i∈Region.ready md ops listed:=(by simpa using hr);rw[Pl.len,show t.len+1+tl.length=(t.len+tl.length)+1 by omega];exact xM ho (Region.noSelect_spec ep) (λc a w h=>hQ c a _ _ w h) hn _ listed a w inv (Region.free_spec ho hf) lL hy hS
   (lO ep hn hQ jO t S _ _ w (inv.set lL cd) CT hS hk)
 | .wr i t,S,listed,a,w,inv,hB,hS,h=>by
  simp only[Fl,Bool.and_eq_true,decide_eq_true_eq]at hB;obtain⟨⟨cd,bg⟩,CT⟩:=hB;have lL:i∈Region.ready md ops listed:=(by rw[bg];simp);rw[Pl.len,show t.len+1+tl.length=(t.len+tl.length)+1 by omega];refine⟨λh1=>(by rw[h1]at lL;cases lL),λj hj=> ?_⟩;rw[bg]at hj;obtain rfl:j=i:=(by simpa using hj);exact wpOp_mono (λa' w' ⟨T,wF,h1,h2⟩=>⟨λ_=>wF _ h1,eC wF _ _ _ _ (lO ep hn hQ jO t T _ a' w' (inv.set lL cd) CT h1 h2)⟩) h
 | .two i p j q,S,listed,a,w,inv,hB,hS,h=>by
  simp only[Fl,Bool.and_eq_true,decide_eq_true_eq]at hB;obtain⟨⟨⟨⟨⟨cd,Cn⟩,Da⟩,hlen⟩,Ad⟩,Ae⟩:=hB;have Tn:i∈Region.ready md ops listed:=(by rw[Da];simp);have hrj:j∈Region.ready md ops listed:=(by rw[Da];simp);rw[Pl.len,show p.len+1+tl.length=(p.len+tl.length)+1 by omega];refine⟨λh1=>(by rw[h1]at Tn;cases Tn),λk hk=> ?_⟩;rw[Da]at hk;rcases au hk with rfl|hk
  ·exact wpOp_mono (λa' w' ⟨T,wF,h1,h2⟩=>⟨λ_=>wF _ h1,eC wF _ _ _ _ (lO ep hn hQ jO p T _ a' w' (inv.set Tn cd) Ad h1 h2)⟩) h.1
  ·obtain rfl:k=j:=(by simpa using hk);rw[hlen];exact wpOp_mono (λa' w' ⟨T,wF,h1,h2⟩=>⟨λ_=>wF _ h1,eC wF _ _ _ _ (lO ep hn hQ jO q T _ a' w' (inv.set hrj Cn) Ae h1 h2)⟩) h.2
def KH (md:Region.Mode) (ops:Array Oper) (dA:Pl):Bool:=
 Region.noSelect ops&&decide (dA.len=ops.size)&&Fl md ops ops.size 0 dA (Array.replicate ops.size false)
theorem aK {id:Nat} {a:Act} {w:World} {l:List Oper} (dA:Pl) (S:World→Prop) (hm:P.follows .mixedOrders=true) (hB:KH .any l.toArray dA=true) (hQ:∀c a d v w,Q (.panic c) (Act.put a d v) w→Q (.panic c) a w) (hS:S w.drew)
  (h:wpPm P l.toArray Q (λa' w'=>wpList P l.toArray Q [] a' w') dA S a w.drew):(Code.region id l.toArray true).wp P Q a w:=by
 simp only[KH,Bool.and_eq_true,decide_eq_true_eq]at hB;obtain⟨⟨ep,hpl⟩,hp⟩:=hB;have CU:HeadInv .any l.toArray l.toArray.size (Array.replicate l.toArray.size false):=
  ⟨by simp,λj oj _ hl=>(by rw[getD_replicate_false]at hl;cases hl),λt _ ht=>getD_in (by simpa using ht) (getD_replicate_false _ _)⟩
 have H:=lO (md:= .any) (tl:=[]) ep rfl hQ (λj=>by simp) dA S _ a w.drew CU hp hS h;refine wp_region_any hm ?_;have H2:=mF _ _ _ _ H;rw[List.length_nil,Nat.add_zero,hpl]at H2;exact H2
end
end Go.Proofs.YtipljcmmokaokaaGreat
namespace Go.Proofs.YtipljcmmokaokaaGreat
open Go.ChangeShapes Go.WideShapes Go.ChangeAt Go.WideMaps Go.WideElems Go.RowKit
set_option maxRecDepth 100000
theorem own:ownKnob Tryz.prog.godebug=none:=by kernel_rfl
theorem KJ:laidOutB Tryz.prog=true:=by kernel_rfl
theorem Af {H:Type} {enc:TypeId×Value→H} {a:Assume} {C:Checked} {os:Os} {f:FuncId} {fn:Func} {s:ChangeSpec} {conds:List PathCond} {apart fresh handsOn again:Bool}
  (own:ownKnob C.prog.godebug=none) (started:os.Started) (Db:C.prog.inits.idxOf? f=none) (hfn:C.prog.funcs[f]? =some fn)
  (witness:∃(w:World) (tape:Tape) (i:Input),w.os=os∧(w.forCall tape i).Shaped C.prog∧i.vars=[]∧Input.okWide C.prog (w.forCall tape i) .any w.heap.size f i∧
   (s.pre enc C.prog fn conds apart (w.forCall tape i).memory i.args∧sizedMet enc C.prog fn (OpenSpec.ofChange s) apart (w.forCall tape i).memory i.args)∧a.holds C.prog (lone (Frame.enter C.prog f i.args .normal) [] (w.forCall tape i)))
  (contract:∀(W:World) (base:Nat) (args:Array Value) (ds gs:List (DataW H)) (before:List MemPlace),
   (∀(j:Nat) t v,fn.params[j]? =some t→args[j]? =some v→Value.okWide C.prog W .any base t v)→
   DataW.Whole enc C.prog fn.params.toList s.vars apart W args.toList ds gs before→
   (DataW.weightsEach C.prog (fn.params.toList++s.plain.varTypes C.prog) (ds++gs)).all (· ≤reachBytes)=true→W.ShapedOpen C.prog→
   Calls C.prog f args W λe W'=>∃v,e= .returned v∧s.post enc C.prog fn apart fresh handsOn again W args v W'):
  ReturnsInHanded a C os f .any (λw args=>s.pre enc C.prog fn conds apart w args∧sizedMet enc C.prog fn (OpenSpec.ofChange s) apart w args) (s.post enc C.prog fn apart fresh handsOn again):=by
 refine returnsInHanded_of_calls own started Db witness ?_;intro w tape i _ GH _ jN KL _;obtain⟨_,_,_,fn',aaN,_,_,_,_,hval⟩:=jN;have e:fn'=fn:=Option.some.inj (aaN.symm.trans hfn);subst e;obtain⟨⟨ds,gs,before,hw,hc⟩,hz⟩:=KL;have hw':=DataW.Whole.of_heap (w':=w.forCall tape i) (by rfl) hw;refine(contract (w.forCall tape i) w.heap.size i.args ds gs before hval hw' (hz.weights hw) GH).mono λe W' ⟨v,he,hp⟩=> ?_;subst he;exact ChangeSpec.post_blind hp
section
variable {H : Type} {enc : TypeId × Value → H} {P : Program} {W W' : World}
theorem pg (hl:laidOutB P=true) (hb:Below W.heap.size W W'):∀(ts:List TypeId) (vs:List Value) (ds:List (DataW H)) (ps:List MemPlace),
  (ts.all λt=>P.readableRec t&&decide (t<P.types.size))=true→DataW.TrodAll enc P W 0 (λ_=>true) true ts vs ds ps→(∀x∈ps,x.block<W.heap.size)→
  DataW.TrodAll enc P W' 0 (λb=>decide (b<W.heap.size)) true ts vs ds ps
 |[],[],[],_,_,h,_=>h
 |[],[],_::_,_,_,h,_=>h.elim
 |[],_::_,_,_,_,h,_=>h.elim
 |_::_,[],_,_,_,h,_=>h.elim
 |_::_,_::_,[],_,_,h,_=>h.elim
 |t::ts,v::vs,d::ds,ps,ht,⟨p,q,h1,h2,e⟩,hlt=>by
  simp only[List.all_cons,Bool.and_eq_true,decide_eq_true_eq]at ht;subst e;exact⟨p,q,Below.trod hl ht.1.1 ht.1.2 h1 hb (λx hx=>hlt x (List.mem_append_left _ hx)),pg hl hb ts vs ds q ht.2 h2 (λx hx=>hlt x (List.mem_append_right _ hx)),rfl⟩
theorem KM {fn:Func} {s:ChangeSpec} {apart:Bool} {args:Array Value} {ds gs:List (DataW H)} {before:List MemPlace} (hl:laidOutB P=true) (hW:DataW.Whole enc P fn.params.toList s.vars apart W args.toList ds gs before)
  (hv:s.vars=[]) (hfn:∀l:List (DataW H),l.length=fn.params.size→s.fn H l={results:=[.lit (.bool true)],args:=l}) {tb:TypeId} (hr:fn.resultTypes=#[tb]) (VM:P.underlying tb=some .bool)
  (KN:(fn.params.toList.all λt=>P.readableRec t&&decide (t<P.types.size))=true) (hb:Below W.heap.size W W'):
  s.post enc P fn apart true false false W args (.bool true) W':=by
 have hW0:=hW;obtain⟨p,q,hA,hV,rfl,hfz,hnd⟩:=hW;rw[hv]at hV;obtain⟨rfl,rfl⟩:=trodVars_none hV;have hlen:∀(ts:List TypeId) (vs:List Value) (ds:List (DataW H)) (ps:List MemPlace),DataW.TrodAll enc P W 0 (λ_=>true) true ts vs ds ps→ds.length=ts.length:=by
  intro ts
  induction ts with
  |nil=>intro vs ds ps h;cases vs<;>cases ds<;>simp[DataW.TrodAll]at h⊢
  |cons t ts ih=>
   intro vs ds ps h;cases vs<;>cases ds<;>simp[DataW.TrodAll]at h⊢
   obtain⟨_,_,q,hq,_⟩:=h;exact ih _ _ _ hq
 have Tp:(ds++[]).length=fn.params.size:=by rw[List.append_nil];simpa using hlen _ _ _ _ hA
 have e:=hfn (ds++[]) Tp;simp only[List.append_nil]at e hW0;refine⟨ds,[],p,[],p,[],by simpa using hW0, ?_, ?_, ?_,hb.frame _,λh=>by cases h⟩
 ·rw[List.append_nil,e,hr];exact trodAll_mk1 (shut_bool VM true)
 ·rw[List.append_nil,e];exact pg hl hb _ _ _ _ KN hA (λx hx=>by have:=hW0.lt x (by simpa using hx);simpa using this)
 ·rw[List.append_nil,e,hv];exact rfl
end
theorem KO {H:Type} {enc:TypeId×Value→H} {os:Os} (started:os.Started) {f:FuncId} {fn:Func} {s:ChangeSpec} {tb:TypeId}
  (Db:Tryz.checked.prog.inits.idxOf? f=none) (Wz:Tryz.checked.prog.funcs[f]? =some fn)
  (witness:∃(w:World) (tape:Tape) (i:Input),w.os=os∧(w.forCall tape i).Shaped Tryz.checked.prog∧i.vars=[]∧Input.okWide Tryz.checked.prog (w.forCall tape i) .any w.heap.size f i∧
   (s.pre enc Tryz.checked.prog fn [] false (w.forCall tape i).memory i.args∧sizedMet enc Tryz.checked.prog fn (OpenSpec.ofChange s) false (w.forCall tape i).memory i.args)∧({}:Assume).holds Tryz.checked.prog (lone (Frame.enter Tryz.checked.prog f i.args .normal) [] (w.forCall tape i)))
  (hv:s.vars=[]) (hfn:∀l:List (DataW H),l.length=fn.params.size→s.fn H l={results:=[.lit (.bool true)],args:=l}) (hr:fn.resultTypes=#[tb]) (VM:Tryz.prog.underlying tb=some .bool)
  (KN:(fn.params.toList.all λt=>Tryz.prog.readableRec t&&decide (t<Tryz.prog.types.size))=true)
  (walk:∀(W:World) (base:Nat) (args:Array Value) (ds:List (DataW H)) (ps:List MemPlace),
   (∀(j:Nat) t v,fn.params[j]? =some t→args[j]? =some v→Value.okWide Tryz.prog W .any base t v)→
   DataW.TrodAll enc Tryz.prog W 0 (λ_=>true) true fn.params.toList args.toList ds ps→(∀x∈ps,x.block<W.heap.size)→
   (DataW.weightsEach Tryz.prog fn.params.toList ds).all (· ≤reachBytes)=true→
   Calls Tryz.prog f args W λe W'=>e= .returned (.bool true)∧Below W.heap.size W W'):
  ReturnsInHanded {} Tryz.checked os f .any (λw args=>s.pre enc Tryz.prog fn [] false w args∧sizedMet enc Tryz.prog fn (OpenSpec.ofChange s) false w args) (s.post enc Tryz.prog fn false true false false):=by
 refine Af (C:=Tryz.checked) own started Db Wz witness ?_;intro W base args ds gs before hval hW hsz _;have hW0:=hW;obtain⟨p,q,hA,hV,rfl,_,_⟩:=hW;rw[hv]at hV;obtain⟨rfl,rfl⟩:=trodVars_none hV;have hlt:∀x∈p,x.block<W.heap.size:=λx hx=>by have:=hW0.lt x (by simpa using hx);simpa using this
 have hz:(DataW.weightsEach Tryz.prog fn.params.toList ds).all (· ≤reachBytes)=true:=by
  have:=hsz;rw[List.append_nil]at this;have e:s.plain.varTypes Tryz.checked.prog=[]:=(by show(s.vars.filterMap _)=[];rw[hv];rfl);rw[e,List.append_nil]at this;exact this
 refine(walk W base args ds p hval hA hlt hz).mono λe W' ⟨he,hb⟩=> ?_;exact⟨_,he,KM KJ hW0 hv hfn hr VM KN hb⟩
end Go.Proofs.YtipljcmmokaokaaGreat
namespace Go.Proofs.YtipljcmmokaokaaGreat
open Go.ChangeShapes Go.WideShapes Go.ChangeAt Go.WideMaps Go.WideElems Go.RowKit Go.Deep
set_option maxRecDepth 100000
section
variable {H : Type} {enc : TypeId × Value → H} {W : World} {base : Nat} {held : Bool}
theorem wG {a:Addr} {v:Value} (h:W.cell? a=some v):∃b o,a=⟨b,o,none⟩∧b<W.heap.size:=by
 obtain⟨b,o,s⟩:=a;have hb:=cell_lt h;refine⟨b,o, ?_,hb⟩;cases s with
 |none=>rfl
 |some x=>
  exfalso;unfold World.cell? at h;split at h
  ·simp at h
  ·cases h
theorem Dc {fuel:Nat} {cs:List Value} {x:DataW H×List MemPlace} (h:DataW.trod enc Tryz.prog W base (λ_=>true) held fuel 40 cs=some x):
  ∃A n c l,cs=[.slice A n c]∧l.length=n∧Sl W bF (.slice A n c) l∧n≤maxLen:=by
 rcases open_ints Tryz.underlying40 Tryz.underlying5 (by kernel_rfl) h with⟨rfl,_⟩|⟨a,len,cap,zs,rfl,_,hl,hm,hzl,_,hc,hwf⟩
 ·exact⟨none,0,0,[],rfl,rfl,Sl.ey,Nat.zero_le _⟩
 ·have hzl:zs.length=cap:=(by simpa using hzl);refine⟨some a,len,cap,(zs.take len).map (λz=>UInt8.ofNat z.toNat),rfl,by rw[List.length_map,List.length_take];omega, ?_,aw hl hm⟩;have hlen:((zs.take len).map (λz=>UInt8.ofNat z.toNat)).length=len:=(by rw[List.length_map,List.length_take];omega);rcases Nat.eq_zero_or_pos cap with h0|h0
  ·subst h0;obtain rfl:len=0:=(by omega);exact .inl ⟨some a,rfl,List.eq_nil_of_length_eq_zero hlen⟩
  ·have hc0:=hc 0 (by omega);obtain⟨b,o,e,hb⟩:=wG hc0;have e2:a=⟨b,o,none⟩:=(by rw[←e];simp[Addr.add]);subst e2;refine .inr ⟨b,o,cap,by rw[hlen],by omega,hb,rfl,λ_=>⟨b,o,rfl,hb,λh=>h,λj hj=> ?_⟩⟩;have VN:j<zs.length:=(by omega);have:=hc j VN;rw[gM]at this;rw[this];have hz:zs.getD j 0=zs[j]:=(by simp[List.getD,VN]);rw[hz];have hw:=bounds_u8 (hwf zs[j] (List.getElem_mem VN));simp only[List.getElem_map,List.getElem_take,u8]
   congr 2
   rw[UInt8.toNat_ofNat'];omega
end
end Go.Proofs.YtipljcmmokaokaaGreat
