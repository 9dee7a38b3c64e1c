import Derived.Test.YtipljcmmokaokaaGreatQ03
import Derived.Test.YtipljcmmokaokaaGreatQShelf
import Derived.Test.YtipljcmmokaokaaGreatChecked
import Derived.ProofKit
import Derived.OpenShut
import Derived.Stop.Joined
import Derived.MakeChecks
import Derived.ChangeMaps
import Derived.LaidMore
import Derived.Deep.Slices
import Derived.BigRegion
set_option linter.unusedVariables false
set_option linter.unusedSimpArgs false
set_option maxHeartbeats 4000000
namespace Go.Proofs.YtipljcmmokaokaaGreat
open Go.RowKit
set_option maxRecDepth 100000
def dG (w:World) (e A:Nat) (l:List UInt8):Prop:=
 ∃C m,w.heap[A]? =some (.cells C e (m,m+1))/\l.length<=m/\∀j (h:j<l.length),C[j]? =some (.int .u8 (l[j].toNat:Int))
theorem dG.cell {w:World} {e A:Nat} {l:List UInt8} (h:dG w e A l) (j:Nat) (b:j<l.length):w.cell? ⟨A,j,none⟩=some (.int .u8 (l[j].toNat:Int)):=by
 obtain⟨C,m,h1,c,a⟩:=h;simp only[World.cell?,h1];exact a j b
theorem dG.frozen {w:World} {e A:Nat} {l:List UInt8} (h:dG w e A l) (j:Nat) (c:j<l.length):w.frozen? ⟨A,j,none⟩=false:=by
 obtain⟨C,m,h1,a,b⟩:=h;simp only[World.frozen?,h1];have:¬m<=j:=by omega
 simp[this]
theorem dG.below {w w':World} {e A B:Nat} {l:List UInt8} (h:dG w e A l) (d:Below B w w') (c:A<B):dG w' e A l:=by
 obtain⟨C,m,h1,a,b⟩:=h;exact⟨C,m,(d.block A c).trans h1,a,b⟩
theorem dG.lt {w:World} {e A:Nat} {l:List UInt8} (h:dG w e A l):A<w.heap.size:=by
 obtain⟨C,m,h1,_,_⟩:=h;exact(ai h1).1
theorem dG.same {w w':World} {e A:Nat} {l:List UInt8} (h:dG w e A l) (c:w'.heap[A]? =w.heap[A]?):dG w' e A l:=by
 obtain⟨C,m,h1,a,b⟩:=h;exact⟨C,m,c.trans h1,a,b⟩
theorem dG.alloc {w:World} {e A:Nat} {l:List UInt8} (h:dG w e A l) (o:Obj):dG (w.alloc o) e A l:=
 h.same (Below.heap_alloc w o A h.lt)
theorem dG.set {w:World} {e A:Nat} {l:List UInt8} (h:dG w e A l) (j:Nat) (g:j<l.length) (b:UInt8):dG (w.setCell ⟨A,j,none⟩ (.int .u8 (b.toNat:Int))) e A (l.set j b):=by
 obtain⟨C,m,h1,c,a⟩:=h;have d:j<C.size:=by
  have:=a j g;exact(ai this).1
 refine⟨C.setIfInBounds j (.int .u8 (b.toNat:Int)),m, ?_,by simpa using c, ?_⟩
 ·simp only[World.setCell,Array.getElem?_modify,h1];simp
 ·intro i f;rw[List.getElem_set];simp only[Array.getElem?_setIfInBounds];by_cases e:j=i
  ·subst e;simp[d]
  ·simp only[e,if_false];exact a i (by simpa using f)
end Go.Proofs.YtipljcmmokaokaaGreat
namespace Go.Proofs.YtipljcmmokaokaaGreat
open Go.RowKit Go.Lib Go.Maps Go.WideMaps Go.Sort
set_option maxRecDepth 100000
theorem aL {R:World->Prop} {W:World} (F:World->Prop) (hF:F W) (h:∀X,F X->R X):R W:=h W hF
theorem gH (a b:J.B):(⟨a.toArray⟩:ByteArray)++⟨b.toArray⟩=⟨(a++b).toArray⟩:=by
 apply ByteArray.ext;rw[ByteArray.data_append];simp
def nh (n:Int):Nat:=(n%4294967296).toNat
theorem kG {n:Nat} (h:n<4294967296):nh n=n:=by unfold nh;omega
theorem ra (k:Nat) (z:Int) (h:z=(k:Int)%256):(Value.int .u8 z)=u8 (UInt8.ofNat k):=by
 unfold u8;rw[UInt8.toNat_ofNat',h];rfl
theorem wz (w:World) (l:List UInt8) (t:TypeId) (a:Nat×Nat) (j:Nat) (h:j<l.length):(w.alloc (.cells (dK l).toArray t a)).cell? ⟨w.heap.size,j,none⟩=some (u8 l[j]):=by
 unfold World.cell?;rw[heap_alloc_new];simp[dK,h]
theorem OV (a b:Nat) (ha:a<4611686018427387904) (d:b<4611686018427387904):bits .or .i64 (a:Int) (b:Int)=((a|||b:Nat):Int):=by
 have e:a|||b<2^62:=Nat.or_lt_two_pow (by omega) (by omega)
 have h1:(BitVec.ofInt 64 (a:Int)).toNat=a:=by
  rw[BitVec.ofInt_natCast,BitVec.toNat_ofNat];exact Nat.mod_eq_of_lt (by omega)
 have c:(BitVec.ofInt 64 (b:Int)).toNat=b:=by
  rw[BitVec.ofInt_natCast,BitVec.toNat_ofNat];exact Nat.mod_eq_of_lt (by omega)
 show IntKind.i64.wrap ((BitVec.ofInt 64 (a:Int)|||BitVec.ofInt 64 (b:Int)).toNat:Int)=_;rw[BitVec.toNat_or,h1,c];rw[IntKind.wrap_i64];omega
theorem OW (x y i:Nat) (h:y<2^i):(x*2^i)|||y=x*2^i+y:=by
 rw[<-Nat.shiftLeft_eq,Nat.shiftLeft_add_eq_or_of_lt h]
theorem wA (x y i:Nat) (h:y<2^i) (a:x*2^i<4611686018427387904) (b:y<4611686018427387904):bits .or .i64 ((x*2^i:Nat):Int) (y:Int)=((x*2^i+y:Nat):Int):=by
 rw[OV _ _ a b,OW x y i h]
theorem wrap_small (x:Nat) (h:x<4611686018427387904):IntKind.i64.wrap (x:Int)=x:=by rw[IntKind.wrap_i64];omega
theorem OX (a b c d:Nat) (ha:a<256) (e:b<256) (f:c<256) (hd:d<256):
  bits .or .i64 (bits .or .i64 (bits .or .i64 (IntKind.i64.wrap (IntKind.i64.wrap (a:Int)*16777216)) (IntKind.i64.wrap (IntKind.i64.wrap (b:Int)*65536))) (IntKind.i64.wrap (IntKind.i64.wrap (c:Int)*256))) (IntKind.i64.wrap (d:Int))=((a*16777216+b*65536+c*256+d:Nat):Int):=by
 rw[wrap_small a (by omega),wrap_small b (by omega),wrap_small c (by omega),wrap_small d (by omega)];rw[show(a:Int)*16777216=((a*256*2^16:Nat):Int) by omega,show(b:Int)*65536=((b*65536:Nat):Int) by omega,show(c:Int)*256=((c*256:Nat):Int) by omega];rw[wrap_small (a*256*2^16) (by omega),wrap_small (b*65536) (by omega),wrap_small (c*256) (by omega)];have e1:bits .or .i64 ((a*256*2^16:Nat):Int) ((b*65536:Nat):Int)=(((a*256+b)*2^16:Nat):Int):=by
  rw[OV _ _ (by omega) (by omega),show a*256*2^16=a*2^24 by omega,OW a (b*65536) 24 (by omega)];omega
 have e2:bits .or .i64 (((a*256+b)*2^16:Nat):Int) ((c*256:Nat):Int)=(((a*65536+b*256+c)*2^8:Nat):Int):=by
  rw[wA _ _ 16 (by omega) (by omega) (by omega)];omega
 rw[e1,e2,wA _ _ 8 (by omega) (by omega) (by omega)];omega
theorem Jr (X:World) (size:Nat):By (X.alloc (.cells (dK (R.cp size)).toArray 5)) bE (some ⟨X.heap.size,0,none⟩) 4 (R.cp size):=
 ⟨rfl,λ_=>⟨_,_,rfl,by simp,λh=>h,λj a=>by rw[Nat.zero_add];exact wz X _ _ _ j a⟩⟩
end Go.Proofs.YtipljcmmokaokaaGreat
namespace Go.Proofs.YtipljcmmokaokaaGreat
open Go
section
variable {P : Program} {D : Array Oper} {Q : Exit -> Act -> World -> Prop} {md : Region.Mode} {S : World -> Prop}
theorem Aj {n i:Nat} {m:Oper} {v:Value} (x:D[i]? =some m) (C:∀(j:Nat) (o:Oper) cs b,D[j]? =some o->o.op≠ .select cs b)
  (I:∀c a w,Q (.panic c) (a.put m.dst v) w->Q (.panic c) a w) (V:n=D.size):
  ∀(q:Nat) (d:Array Bool) (a:Act) (w:World),HeadInv md D n d->
   (∀j g,D[j]? =some g->j≠i->d.getD j true=false->(∀e∈g.after,Region.binds md e=true->e.on≠i)->m.apart D g=true)->
   i∈Region.ready md D d->YieldsIf P D S m v a->S w->
   wpAnyT P md D Q S n q (d.setIfInBounds i true) (a.put m.dst v) w->wpAnyT P md D Q S n (q+1) d a w:=by
 intro q
 induction q with
 |zero=>
  intro d a w _ _ l u r H;refine⟨λh=>(by rw[h]at l;cases l),λj p=> ?_⟩;by_cases f:j=i
  ·subst f;exact u.wpOp x r ⟨λ_=>r,H⟩
  ·have:=ready_mono p f;rw[H.1]at this;cases this
 |succ q Z=>
  intro d a w inv z l u r H;refine⟨λh=>(by rw[h]at l;cases l),λj p=> ?_⟩;have y:j<n:=by
   obtain⟨_,g,s,_⟩:=mem_ready.1 p;rw[V];exact(ai s).1
  by_cases f:j=i
  ·subst f;exact u.wpOp x r ⟨λ_=>r,H⟩
  ·have h1:=H.2 j (ready_mono p f);obtain⟨B,g,s,K⟩:=mem_ready.1 p;have Y:∀e∈g.after,Region.binds md e=true->e.on≠i:=λe M L N=>by
    have h1:=K e M L;rw[N,getD_both (mem_ready.1 l).1]at h1;cases h1
   have G:=wpOp_putIf s (z j g s f B Y) (λcs b=>C i m cs b x) (λcs b=>C j g cs b s) I u h1;have O:∀k ok,D[k]? =some ok->k≠i->(d.setIfInBounds j true).getD k true=false->
     (∀e∈ok.after,Region.binds md e=true->e.on≠i)->m.apart D ok=true:=λk ok T U E W=>by
    refine z k ok T U ?_ W;by_cases A:j=k
    ·subst A;exact B
    ·rw[getD_set_ne true A]at E;exact E
   refine wpOp_mono (λF w' t=>⟨λ_=>t.2.1 y,Z (d.setIfInBounds j true) F w' (inv.set p y) O (ready_mono l (Ne.symm f)) t.1 (t.2.1 y) ?_⟩) G;rw[Array.setIfInBounds_comm _ _ f];exact t.2.2
theorem kH {n:Nat} {tl:List Oper} (x:Region.noSelect D=true) (u:n=D.size) (r:∀c a d v w,Q (.panic c) (Act.put a d v) w->Q (.panic c) a w) (y:∀j,tl[j]? =D[n+j]?):
  ∀(C:Pl) (S:World->Prop) (b:Array Bool) (a:Act) (w:World),HeadInv md D n b->Jq md D n tl.length C b=true->S w->
   wpPm P D Q (λa w=>wpList P D Q tl a w) C S a w->wpAnyT P md D Q S n (C.len+tl.length) b a w
 | .fin,S,b,a,w,inv,hB,hS,h=>by
  rw[Pl.len,Nat.zero_add];exact gF tl n b a w (aq _) y hB h
 | .rd i t,S,b,a,w,inv,hB,hS,h=>by
  simp only[Jq,Bool.and_eq_true,decide_eq_true_eq]at hB;obtain⟨⟨⟨s,N⟩,K⟩,z⟩:=hB;obtain⟨o,v,F,U,f⟩:=h;have g:i∈Region.ready md D b:=(by simpa using N);rw[Pl.len,show t.len+1+tl.length=(t.len+tl.length)+1 by omega];exact Aj F (Region.noSelect_spec x) (λc a w h=>r c a _ _ w h) u _ b a w inv (Region.free_spec F K) g U hS
   (kH x u r y t S _ _ w (inv.set g s) z hS f)
 | .wr i t,S,b,a,w,inv,hB,hS,h=>by
  simp only[Jq,Bool.and_eq_true,decide_eq_true_eq]at hB;obtain⟨⟨s,G⟩,z⟩:=hB;have g:i∈Region.ready md D b:=(by rw[G];simp);rw[Pl.len,show t.len+1+tl.length=(t.len+tl.length)+1 by omega];refine⟨λh1=>(by rw[h1]at g;cases g),λj E=> ?_⟩;rw[G]at E;obtain rfl:j=i:=(by simpa using E);exact wpOp_mono (λl w' ⟨T,e,h1,m⟩=>⟨λ_=>e _ h1,eW e _ _ _ _ (kH x u r y t T _ l w' (inv.set g s) z h1 m)⟩) h
 | .two i p j q,S,b,a,w,inv,hB,hS,h=>by
  simp only[Jq,Bool.and_eq_true,decide_eq_true_eq]at hB;obtain⟨⟨⟨⟨⟨s,L⟩,B⟩,M⟩,H⟩,I⟩:=hB;have A:i∈Region.ready md D b:=(by rw[B];simp);have O:j∈Region.ready md D b:=(by rw[B];simp);rw[Pl.len,show p.len+1+tl.length=(p.len+tl.length)+1 by omega];refine⟨λh1=>(by rw[h1]at A;cases A),λk f=> ?_⟩;rw[B]at f;rcases au f with rfl|f
  ·exact wpOp_mono (λl w' ⟨T,e,h1,m⟩=>⟨λ_=>e _ h1,eW e _ _ _ _ (kH x u r y p T _ l w' (inv.set A s) H h1 m)⟩) h.1
  ·obtain rfl:k=j:=(by simpa using f);rw[M];exact wpOp_mono (λl w' ⟨T,e,h1,m⟩=>⟨λ_=>e _ h1,eW e _ _ _ _ (kH x u r y q T _ l w' (inv.set O L) I h1 m)⟩) h.2
def Gj (md:Region.Mode) (D:Array Oper) (dg:Pl):Bool:=
 Region.noSelect D&&decide (dg.len=D.size)&&Jq md D D.size 0 dg (Array.replicate D.size false)
theorem wp_region_pe {id:Nat} {a:Act} {w:World} {l:List Oper} (b:Pl) (S:World->Prop) (k:P.follows .mixedOrders=true) (e:Gj .any l.toArray b=true) (g:∀c a d v w,Q (.panic c) (Act.put a d v) w->Q (.panic c) a w) (i:S w.drew)
  (h:wpPm P l.toArray Q (λf w'=>wpList P l.toArray Q [] f w') b S a w.drew):(Code.region id l.toArray true).wp P Q a w:=by
 simp only[Gj,Bool.and_eq_true,decide_eq_true_eq]at e;obtain⟨⟨q,p⟩,o⟩:=e;have s:HeadInv .any l.toArray l.toArray.size (Array.replicate l.toArray.size false):=
  ⟨by simp,λj u _ n=>(by rw[getD_replicate_false]at n;cases n),λt _ r=>getD_in (by simpa using r) (getD_replicate_false _ _)⟩
 have H:=kH (md:= .any) (tl:=[]) q rfl g (λj=>by simp) b S _ a w.drew s o i h;refine wp_region_any k ?_;have m:=lJ _ _ _ _ H;rw[List.length_nil,Nat.add_zero,p]at m;exact m
theorem aR {id:Nat} {a:Act} {w:World} {l:List Oper} (b:Pl) (S:World->Prop) (i:S w.drew) (h:wpPm P l.toArray Q (λf w'=>wpList P l.toArray Q [] f w') b S a w.drew) (k:P.follows .mixedOrders=true:=by kernel_rfl) (e:Gj .any l.toArray b=true:=by kernel_rfl) (g:∀c a d v w,Q (.panic c) (Act.put a d v) w->Q (.panic c) a w:=by intro c a d v w h;cases d<;>exact h):(Code.region id l.toArray true).wp P Q a w:=
 wp_region_pe b S k e g i h
end
end Go.Proofs.YtipljcmmokaokaaGreat
namespace Go.Proofs.YtipljcmmokaokaaGreat
open Go.ChangeShapes Go.WideShapes Go.ChangeAt Go.WideMaps Go.WideElems Go.RowKit
set_option maxRecDepth 100000
theorem own:ownKnob Tryz.prog.godebug=none:=by kernel_rfl
theorem OY:laidOutB Tryz.prog=true:=by kernel_rfl
theorem Df {H:Type} {enc:TypeId×Value->H} {a:Assume} {C:Checked} {os:Os} {f:FuncId} {b:Func} {s:ChangeSpec} {k:List PathCond} {c l m h:Bool}
  (own:ownKnob C.prog.godebug=none) (I:os.Started) (G:C.prog.inits.idxOf? f=none) (r:C.prog.funcs[f]? =some b)
  (K:∃(w:World) (tape:Tape) (i:Input),w.os=os/\(w.forCall tape i).Shaped C.prog/\i.vars=[]/\Input.okWide C.prog (w.forCall tape i) .any w.heap.size f i/\
   (s.pre enc C.prog b k c (w.forCall tape i).memory i.args/\sizedMet enc C.prog b (OpenSpec.ofChange s) c (w.forCall tape i).memory i.args)/\a.holds C.prog (lone (Frame.enter C.prog f i.args .normal) [] (w.forCall tape i)))
  (o:∀(W:World) (base:Nat) (d:Array Value) (ds gs:List (DataW H)) (g:List MemPlace),
   (∀(j:Nat) t v,b.params[j]? =some t->d[j]? =some v->Value.okWide C.prog W .any base t v)->
   DataW.Whole enc C.prog b.params.toList s.vars c W d.toList ds gs g->
   (DataW.weightsEach C.prog (b.params.toList++s.plain.varTypes C.prog) (ds++gs)).all (· <=reachBytes)=true->W.ShapedOpen C.prog->
   Calls C.prog f d W λe E=>∃v,e= .returned v/\s.post enc C.prog b c l m h W d v E):
  ReturnsInHanded a C os f .any (λw d=>s.pre enc C.prog b k c w d/\sizedMet enc C.prog b (OpenSpec.ofChange s) c w d) (s.post enc C.prog b c l m h):=by
 refine returnsInHanded_of_calls own I G K ?_;intro w tape i _ A _ x z _;obtain⟨_,_,_,p,u,_,_,_,_,B⟩:=x;have e:p=b:=Option.some.inj (u.symm.trans r);subst e;obtain⟨⟨ds,gs,g,n,L⟩,F⟩:=z;have D:=DataW.Whole.of_heap (w':=w.forCall tape i) (by rfl) n;refine(o (w.forCall tape i) w.heap.size i.args ds gs g B D (F.weights n) A).mono λe E ⟨v,q,y⟩=> ?_;subst q;exact ChangeSpec.post_blind y
section
variable {H : Type} {enc : TypeId × Value -> H} {P : Program} {W E : World}
theorem oG (g:laidOutB P=true) (f:Below W.heap.size W E):∀(ts:List TypeId) (vs:List Value) (ds:List (DataW H)) (a:List MemPlace),
  (ts.all λt=>P.readableRec t&&decide (t<P.types.size))=true->DataW.TrodAll enc P W 0 (λ_=>true) true ts vs ds a->(∀x∈a,x.block<W.heap.size)->
  DataW.TrodAll enc P E 0 (λb=>decide (b<W.heap.size)) true ts vs ds a
 |[],[],[],_,_,h,_=>h
 |[],[],_::_,_,_,h,_=>h.elim
 |[],_::_,_,_,_,h,_=>h.elim
 |_::_,[],_,_,_,h,_=>h.elim
 |_::_,_::_,[],_,_,h,_=>h.elim
 |t::ts,v::vs,d::ds,a,ht,⟨p,q,h1,h2,e⟩,hlt=>by
  simp only[List.all_cons,Bool.and_eq_true,decide_eq_true_eq]at ht;subst e;exact⟨p,q,Below.trod g ht.1.1 ht.1.2 h1 f (λx c=>hlt x (List.mem_append_left _ c)),oG g f ts vs ds q ht.2 h2 (λx c=>hlt x (List.mem_append_right _ c)),rfl⟩
theorem Pb {a:Func} {s:ChangeSpec} {d:Bool} {args:Array Value} {ds gs:List (DataW H)} {m:List MemPlace} (r:laidOutB P=true) (i:DataW.Whole enc P a.params.toList s.vars d W args.toList ds gs m)
  (k:s.vars=[]) (o:∀l:List (DataW H),l.length=a.params.size->s.fn H l={results:=[.lit (.bool true)],args:=l}) {tb:TypeId} (w:a.resultTypes=#[tb]) (z:P.underlying tb=some .bool)
  (y:(a.params.toList.all λt=>P.readableRec t&&decide (t<P.types.size))=true) (j:Below W.heap.size W E):
  s.post enc P a d true false false W args (.bool true) E:=by
 have b:=i;obtain⟨p,q,f,g,rfl,C,D⟩:=i;rw[k]at g;obtain⟨rfl,rfl⟩:=trodVars_none g;have u:∀(ts:List TypeId) (vs:List Value) (ds:List (DataW H)) (c:List MemPlace),DataW.TrodAll enc P W 0 (λ_=>true) true ts vs ds c->ds.length=ts.length:=by
  intro ts
  induction ts with
  |nil=>intro vs ds c h;cases vs<;>cases ds<;>simp[DataW.TrodAll]at h|-
  |cons t ts B=>
   intro vs ds c h;cases vs<;>cases ds<;>simp[DataW.TrodAll]at h|-
   obtain⟨_,_,q,v,_⟩:=h;exact B _ _ _ v
 have n:(ds++[]).length=a.params.size:=by rw[List.append_nil];simpa using u _ _ _ _ f
 have e:=o (ds++[]) n;simp only[List.append_nil]at e b;refine⟨ds,[],p,[],p,[],by simpa using b, ?_, ?_, ?_,j.frame _,λh=>by cases h⟩
 ·rw[List.append_nil,e,w];exact trodAll_mk1 (shut_bool z true)
 ·rw[List.append_nil,e];exact oG r j _ _ _ _ y f (λx A=>by have:=b.lt x (by simpa using A);simpa using this)
 ·rw[List.append_nil,e,k];exact rfl
end
theorem Pd {H:Type} {enc:TypeId×Value->H} {os:Os} (K:os.Started) {f:FuncId} {a:Func} {s:ChangeSpec} {tb:TypeId}
  (I:Tryz.checked.prog.inits.idxOf? f=none) (r:Tryz.checked.prog.funcs[f]? =some a)
  (M:∃(w:World) (tape:Tape) (i:Input),w.os=os/\(w.forCall tape i).Shaped Tryz.checked.prog/\i.vars=[]/\Input.okWide Tryz.checked.prog (w.forCall tape i) .any w.heap.size f i/\
   (s.pre enc Tryz.checked.prog a [] false (w.forCall tape i).memory i.args/\sizedMet enc Tryz.checked.prog a (OpenSpec.ofChange s) false (w.forCall tape i).memory i.args)/\({}:Assume).holds Tryz.checked.prog (lone (Frame.enter Tryz.checked.prog f i.args .normal) [] (w.forCall tape i)))
  (b:s.vars=[]) (o:∀l:List (DataW H),l.length=a.params.size->s.fn H l={results:=[.lit (.bool true)],args:=l}) (y:a.resultTypes=#[tb]) (B:Tryz.prog.underlying tb=some .bool)
  (z:(a.params.toList.all λt=>Tryz.prog.readableRec t&&decide (t<Tryz.prog.types.size))=true)
  (L:∀(W:World) (base:Nat) (args:Array Value) (ds:List (DataW H)) (h:List MemPlace),
   (∀(j:Nat) t v,a.params[j]? =some t->args[j]? =some v->Value.okWide Tryz.prog W .any base t v)->
   DataW.TrodAll enc Tryz.prog W 0 (λ_=>true) true a.params.toList args.toList ds h->(∀x∈h,x.block<W.heap.size)->
   (DataW.weightsEach Tryz.prog a.params.toList ds).all (· <=reachBytes)=true->
   Calls Tryz.prog f args W λe E=>e= .returned (.bool true)/\Below W.heap.size W E):
  ReturnsInHanded {} Tryz.checked os f .any (λw args=>s.pre enc Tryz.prog a [] false w args/\sizedMet enc Tryz.prog a (OpenSpec.ofChange s) false w args) (s.post enc Tryz.prog a false true false false):=by
 refine Df (C:=Tryz.checked) own K I r M ?_;intro W base args ds gs N D d A _;have g:=d;obtain⟨p,q,k,c,rfl,_,_⟩:=d;rw[b]at c;obtain⟨rfl,rfl⟩:=trodVars_none c;have u:∀x∈p,x.block<W.heap.size:=λx F=>by have:=g.lt x (by simpa using F);simpa using this
 have G:(DataW.weightsEach Tryz.prog a.params.toList ds).all (· <=reachBytes)=true:=by
  have:=A;rw[List.append_nil]at this;have e:s.plain.varTypes Tryz.checked.prog=[]:=(by show(s.vars.filterMap _)=[];rw[b];rfl);rw[e,List.append_nil]at this;exact this
 refine(L W base args ds p D k u G).mono λe E ⟨n,m⟩=> ?_;exact⟨_,n,Pb OY g b o y B z m⟩
end Go.Proofs.YtipljcmmokaokaaGreat
namespace Go.Proofs.YtipljcmmokaokaaGreat
open Go.ChangeShapes Go.WideShapes Go.ChangeAt Go.WideMaps Go.WideElems Go.RowKit Go.Deep
set_option maxRecDepth 100000
section
variable {H : Type} {enc : TypeId × Value -> H} {W : World} {base : Nat} {G : Bool}
theorem yX {a:Addr} {v:Value} (h:W.cell? a=some v):∃b o,a=⟨b,o,none⟩/\b<W.heap.size:=by
 obtain⟨b,o,s⟩:=a;have c:=cell_lt h;refine⟨b,o, ?_,c⟩;cases s with
 |none=>rfl
 |some x=>
  exfalso;unfold World.cell? at h;split at h
  ·simp at h
  ·cases h
theorem Gl {p:Nat} {cs:List Value} {x:DataW H×List MemPlace} (h:DataW.trod enc Tryz.prog W base (λ_=>true) G p 40 cs=some x):
  ∃A n c l,cs=[.slice A n c]/\l.length=n/\Sl W bE (.slice A n c) l/\n<=maxLen:=by
 rcases open_ints Tryz.underlying40 Tryz.underlying5 (by kernel_rfl) h with⟨rfl,_⟩|⟨a,len,cap,d,rfl,_,r,s,m,_,i,t⟩
 ·exact⟨none,0,0,[],rfl,rfl,Sl.dV,Nat.zero_le _⟩
 ·have m:d.length=cap:=(by simpa using m);refine⟨some a,len,cap,(d.take len).map (λz=>UInt8.ofNat z.toNat),rfl,by rw[List.length_map,List.length_take];omega, ?_,aw r s⟩;have k:((d.take len).map (λz=>UInt8.ofNat z.toNat)).length=len:=(by rw[List.length_map,List.length_take];omega);rcases Nat.eq_zero_or_pos cap with h0|h0
  ·subst h0;obtain rfl:len=0:=(by omega);exact .inl ⟨some a,rfl,List.eq_nil_of_length_eq_zero k⟩
  ·have q:=i 0 (by omega);obtain⟨b,o,e,g⟩:=yX q;have e2:a=⟨b,o,none⟩:=(by rw[<-e];simp[Addr.add]);subst e2;refine .inr ⟨b,o,cap,by rw[k],by omega,g,rfl,λ_=>⟨b,o,rfl,g,λh=>h,λj v=> ?_⟩⟩;have f:j<d.length:=(by omega);have:=i j f;rw[fB]at this;rw[this];have u:d.getD j 0=d[j]:=(by simp[List.getD,f]);rw[u];have w:=bounds_u8 (t d[j] (List.getElem_mem f));simp only[List.getElem_map,List.getElem_take,u8]
   congr 2
   rw[UInt8.toNat_ofNat'];omega
end
end Go.Proofs.YtipljcmmokaokaaGreat
namespace Go.Proofs.YtipljcmmokaokaaGreat
open Go.RowKit Go.Lib Go.Maps Go.WideMaps
set_option maxRecDepth 100000
theorem gO {W w1:World} {p:Nat} {t:TypeId} {C:Array Value} {o:Obj} {r:Option Nat} (h:W.heap[p]? =some (.cells C t (0,0))) (a:(W.alloc o).grownBy w1 r) (b:r≠some p):w1.heap[p]? =some (.cells C t (0,0)):=by
 have c:p<W.heap.size:=(ai h).1;exact(a.block p (by simp;omega) (λe=>b e.symm)).trans (((ak W.heap.size W).alloc (aq _) o).block p c|>.trans h)
theorem dL {w:World} {base n size:Nat} {e:TypeId} {v:Value} {xs:List Value} (h:w.ownsRow base e size v n xs):∃A m c,v= .slice A m c:=by
 rcases h.2 with⟨rfl,_⟩|⟨g',cap,cur,rfl,_⟩
 ·exact⟨_,_,_,rfl⟩
 ·exact⟨_,_,_,rfl⟩
theorem Uh (p:Nat) (M:Nat->Prop) (s:J.St) (key:ByteArray) (A:Option Addr) (n c:Nat) (val:List UInt8) (w:World) (h:br w p M s) (hk:key.size<=1000) (hn:n<=10000)
  (hv:bT w M (.slice A n c) val) (c8:3+key.size+(4+n)<=4194304 - s.size) (ho:s.opn=true):
  Calls Tryz.prog 102 #[.pointer (some ⟨p,0,none⟩), .agg #[.string key, .slice A n c, .bool false]] w λe w'=>e= .returned (.int .i64 0)/\∃M',br w' p M' (J.add s ⟨key.data.toList,val,false⟩).1/\Step M M' w w':=by
 obtain⟨bn,bw,ch,wr,b0,b1,b2,b3,d0,d1,d2,d3,h1,r,C,t⟩:=h;have H1:=ae h1;have I:=ae r;have H3:=ae C;have g:=ae t;have B:=ae hv;have O:=ae ho;have c6:p<w.heap.size:=(ai h1).1;have c7:=t.size;have d6:=t.chs;have v:Below w.heap.size w (w.alloc (.cells #[.string key, .slice A n c, .bool false] 163)):=(ak _ _).alloc (aq _) _;have f:=(v.block p c6).trans h1;have hc:=aj _ p f;have hf:=aD f;have c5:=λj=>World.cell?_alloc_new w #[.string key, .slice A n c, .bool false] 163 j;obtain⟨vs,g1,l,Q⟩:=C.chs;have a1:ch.ownBlock≠some p:=df l h1 (by decide);have T:((w.alloc (.cells #[.string key, .slice A n c, .bool false] 163))).heap[w.heap.size]? =some (.cells #[.string key, .slice A n c, .bool false] 163 (0,0)):=heap_alloc_new w _;have b6:=ae (show ch.ownBlock≠some w.heap.size fromλe=>absurd (l.lt _ e).2 (Nat.lt_irrefl _));have z:=ae v;have q:=ae f;have N:=ae (eE l (λk e=>v.block k (l.lt k e).2));have a7:=ae g1;have a8:=ae Q;have HN:=ae a1;have HX:=ae T;have c4:=ae c7;clear h1 r C t v f g1 l Q a1 hv ho T;have m:(⟨key.data.toList,val,false⟩:J.cd).len=3+key.size+(4+n):=by
  have h1:key.data.toList.length=key.size:=rfl;have r:val.length=n:=by
   rcases B.o with⟨e,rfl⟩|⟨b,o,e,_⟩
   ·injection e with _ e;exact e.symm
   ·injection e with _ e;exact e.symm
  simp[J.cd.len,h1,r]
 have S:(J.add s ⟨key.data.toList,val,false⟩).1={s with changes:=s.changes++[⟨key.data.toList,val,false⟩],size:=s.size+(3+key.size+(4+n)),now:=J.ins s.now key.data.toList val}:=by
  unfold J.add;rw[if_neg (by rw[m];omega),m];rfl
 have F:=OL (c:=⟨key.data.toList,val,false⟩) g.o O.o (by rw[m];omega) (λe=>by cases e);rw[m]at F;have Z:s.now.length<=100000000:=by
  have a:=J.pB s.now;have b:=g.o.now;have c:=g.o.logged;have d:=g.o.encs O.o;have e:=g.o.size;omega
 have a6:=ae S;have b8:=ae F;have b4:=ae Z;clear m S F Z;have hb:¬((4194304:Int) - (s.size:Int)<3+(key.size:Int)+(4+(n:Int))):=by omega
 go_enter Tryz.func102,Tryz.ntmps102;go_upto_region 1 with fail;generalize hW:w.alloc (.cells #[.string key, .slice A n c, .bool false] 163)=W at hc hf c5 z q N HX|-;clear hW;go_upto_region 7 with fail;have a5:(s.changes.length:Nat)+1<=100000000:=by have:=c4.o;omega
 have c3:=ae a5;have a2:∀(W':World),∀j u,([.string key, .slice A n c, .bool false]:List Value)[j]? =some u->(W'.alloc (.cells #[.string key, .slice A n c, .bool false] 163)).cell? ((⟨W'.heap.size,0,none⟩:Addr).add j)=some u:=λW' j u y=>by
  have:=World.cell?_alloc_new W' #[.string key, .slice A n c, .bool false] 163 j;rw[show(⟨W'.heap.size,0,none⟩:Addr).add j=⟨W'.heap.size,j,none⟩ by simp[Addr.add];intro e;exact e.symm];rw[this];rw[<-y];simp
 have a3:∀u∈([.string key, .slice A n c, .bool false]:List Value),u.oneCell'=true:=by intro u y;simp at y;rcases y with rfl|rfl|rfl<;>rfl
 have b7:=ae a2;have b9:=ae a3;have d8:IntKind.i64.wrap ((s.size:Int)+(3+(key.size:Int)+(4+(n:Int))))=(s.size:Int)+(3+(key.size:Int)+(4+(n:Int))):=IntWalk.i64_in _ (by omega);clear a5 a2 a3;have d5:=aj _ p ((((ak W.heap.size W).alloc (aq _) (.cells #[.string key, .slice A n c, .bool false] 163)).block p (ai q.o).1).trans q.o);go_region_law (refine tR (by rfl) _ _ (by rfl) ch s.changes.length (dc s.changes vs) (by rfl) (N.o.drew.alloc _) ⟨W.drew.heap.size,0,none⟩ 1 1 [.string key, .slice A n c, .bool false] (by rfl) (by rfl) (b7.o _) b9.o c3.o ?_;intro v1 w1 G x Y;obtain⟨A1,m1,c1,rfl⟩:=dL G;have f:=gO (W:=W.drew) q.o x HN.o;have d4:=aj _ p f;have d7:=aD f;have c2:=ae f;have c0:=ae G;have a9:=ae x;have b5:=ae Y;have a4:=gO (W:=W.drew) HX.o x b6.o;have c9:=aj _ w.heap.size a4;clear f G x Y a4)
 all_goals
  go_wp2_with fail;have D:=Jm (cg:=⟨key.data.toList,val,false⟩) (n:=s.size+(3+key.size+(4+n))) H3.o rfl (z.o.drew.alloc z.o.drew.size _) a7.o a8.o B.o c0.o a9.o b5.o;have E:=add_mid D.1 c2.o (Or.inl I.o) (.slice A1 m1 c1) (.int .i64 ((s.size:Int)+(3+(key.size:Int)+(4+(n:Int)))));have H:=E.2.1;rw[yR s bn bw ch _ wr b0 b1 b2 b3 d0 d1 d2 d3 (s.changes++[⟨key.data.toList,val,false⟩]) (s.size+(3+key.size+(4+n))) _ (by push_cast;rfl)]at H;have K:=ae D;have i:=ae E;have P:=ae H;clear D E H;refine(sP p bn _ s.now _ key A n c val _ P.o rfl i.o.1.now i.o.1.mbn (by unfold maxLen;omega) ((B.o.step K.o.2).step i.o.2.2) b4.o).mono ?_;rintro e w3 ⟨rfl,a0,V⟩;have U:=Jn i.o.1 P.o (Or.inl I.o) V a0 b8.o;have L:=ae U;clear a0 V U;go_wp2_with fail;go_ret;exact⟨rfl,_,a6.o▸L.o.1,(K.o.2.trans i.o.2.2).trans L.o.2⟩
theorem Pf (p:Nat) (M:Nat->Prop) (s:J.St) (key:ByteArray) (w:World) (h:br w p M s) (hk:key.size<=1000)
  (c5:3+key.size<=4194304 - s.size) (Z:s.opn=true):
  Calls Tryz.prog 102 #[.pointer (some ⟨p,0,none⟩), .agg #[.string key, .slice none 0 0, .bool true]] w λe w'=>e= .returned (.int .i64 0)/\∃M',br w' p M' (J.add s ⟨key.data.toList,[],true⟩).1/\Step M M' w w':=by
 obtain⟨bn,bw,ch,wr,b0,b1,b2,b3,d0,d1,d2,d3,h1,L,y,q⟩:=h;have H1:=ae h1;have E:=ae L;have H3:=ae y;have g:=ae q;have HV:=ae (show bT w M (.slice none 0 0) []from .inl ⟨rfl,rfl⟩);have H:=ae Z;have c2:p<w.heap.size:=(ai h1).1;have c3:=q.size;have c9:=q.chs;have r:Below w.heap.size w (w.alloc (.cells #[.string key, .slice none 0 0, .bool true] 163)):=(ak _ _).alloc (aq _) _;have f:=(r.block p c2).trans h1;have hc:=aj _ p f;have hf:=aD f;have c0:=λj=>World.cell?_alloc_new w #[.string key, .slice none 0 0, .bool true] 163 j;obtain⟨vs,g1,i,K⟩:=y.chs;have V:ch.ownBlock≠some p:=df i h1 (by decide);have O:((w.alloc (.cells #[.string key, .slice none 0 0, .bool true] 163))).heap[w.heap.size]? =some (.cells #[.string key, .slice none 0 0, .bool true] 163 (0,0)):=heap_alloc_new w _;have a8:=ae (show ch.ownBlock≠some w.heap.size fromλe=>absurd (i.lt _ e).2 (Nat.lt_irrefl _));have x:=ae r;have o:=ae f;have G:=ae (eE i (λk e=>r.block k (i.lt k e).2));have a4:=ae g1;have a5:=ae K;have HN:=ae V;have HX:=ae O;have b9:=ae c3;clear h1 L y q r f g1 i K V Z O;have l:(⟨key.data.toList,[],true⟩:J.cd).len=3+key.size:=by
  have h1:key.data.toList.length=key.size:=rfl;simp[J.cd.len,h1]
 have N:(J.add s ⟨key.data.toList,[],true⟩).1={s with changes:=s.changes++[⟨key.data.toList,[],true⟩],size:=s.size+(3+key.size),now:=J.del s.now key.data.toList}:=by
  unfold J.add;rw[if_neg (by rw[l];omega),l];rfl
 have B:=OL (c:=⟨key.data.toList,[],true⟩) g.o H.o (by rw[l];omega) (λ_=>rfl);rw[l]at B;have T:s.now.length<=100000000:=by
  have a:=J.pB s.now;have b:=g.o.now;have c:=g.o.logged;have d:=g.o.encs H.o;have e:=g.o.size;omega
 have a3:=ae N;have b4:=ae B;have c4:=ae T;clear l N B T;have hb:¬((4194304:Int) - (s.size:Int)<3+(key.size:Int)):=by omega
 go_enter Tryz.func102,Tryz.ntmps102;go_upto_region 1 with fail;generalize hW:w.alloc (.cells #[.string key, .slice none 0 0, .bool true] 163)=W at hc hf c0 x o G HX|-;clear hW;go_upto_region 7 with fail;have a2:(s.changes.length:Nat)+1<=100000000:=by have:=b9.o;omega
 have b8:=ae a2;have Y:∀(W':World),∀j u,([.string key, .slice none 0 0, .bool true]:List Value)[j]? =some u->(W'.alloc (.cells #[.string key, .slice none 0 0, .bool true] 163)).cell? ((⟨W'.heap.size,0,none⟩:Addr).add j)=some u:=λW' j u v=>by
  have:=World.cell?_alloc_new W' #[.string key, .slice none 0 0, .bool true] 163 j;rw[show(⟨W'.heap.size,0,none⟩:Addr).add j=⟨W'.heap.size,j,none⟩ by simp[Addr.add];intro e;exact e.symm];rw[this];rw[<-v];simp
 have a0:∀u∈([.string key, .slice none 0 0, .bool true]:List Value),u.oneCell'=true:=by intro u v;simp at v;rcases v with rfl|rfl|rfl<;>rfl
 have a9:=ae Y;have b5:=ae a0;have d5:IntKind.i64.wrap ((s.size:Int)+(3+(key.size:Int)))=(s.size:Int)+(3+(key.size:Int)):=IntWalk.i64_in _ (by omega);clear a2 Y a0;have c8:=aj _ p ((((ak W.heap.size W).alloc (aq _) (.cells #[.string key, .slice none 0 0, .bool true] 163)).block p (ai o.o).1).trans o.o);go_region_law (refine tR (by rfl) _ _ (by rfl) ch s.changes.length (dc s.changes vs) (by rfl) (G.o.drew.alloc _) ⟨W.drew.heap.size,0,none⟩ 1 1 [.string key, .slice none 0 0, .bool true] (by rfl) (by rfl) (a9.o _) b5.o b8.o ?_;intro v1 w1 C t S;obtain⟨A1,m1,c1,rfl⟩:=dL C;have f:=gO (W:=W.drew) o.o t HN.o;have c7:=aj _ p f;have d4:=aD f;have b7:=ae f;have b6:=ae C;have a6:=ae t;have a7:=ae S;have a1:=gO (W:=W.drew) HX.o t a8.o;have c6:=aj _ w.heap.size a1;clear f C t S a1)
 all_goals
  go_wp2_with fail;have z:=Jm (cg:=⟨key.data.toList,[],true⟩) (n:=s.size+(3+key.size)) H3.o rfl (x.o.drew.alloc x.o.drew.size _) a4.o a5.o HV.o b6.o a6.o a7.o;have A:=add_mid z.1 b7.o (Or.inl E.o) (.slice A1 m1 c1) (.int .i64 ((s.size:Int)+(3+(key.size:Int))));have D:=A.2.1;rw[yR s bn bw ch _ wr b0 b1 b2 b3 d0 d1 d2 d3 (s.changes++[⟨key.data.toList,[],true⟩]) (s.size+(3+key.size)) _ (by push_cast;rfl)]at D;have HA:=ae z;have m:=ae A;have I:=ae D;clear z A D;refine(pI p bn _ s.now _ key none 0 0 _ I.o rfl m.o.1.now m.o.1.mbn (by unfold maxLen;omega)).mono ?_;rintro e w3 ⟨rfl,U,Q⟩;have P:=Jn m.o.1 I.o (Or.inl E.o) Q U b4.o;have F:=ae P;clear U Q P;go_wp2_with fail;go_ret;exact⟨rfl,_,a3.o▸F.o.1,(HA.o.2.trans m.o.2.2).trans F.o.2⟩
end Go.Proofs.YtipljcmmokaokaaGreat
