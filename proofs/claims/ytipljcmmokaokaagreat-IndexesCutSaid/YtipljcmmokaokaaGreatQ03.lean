import Derived.Test.YtipljcmmokaokaaGreatQ02
import Derived.StillTailTactics
import Derived.Deep.RegionLaw
import Derived.OrdersHeld
import Derived.StillTail
import Derived.Deep.RegionHeld
set_option linter.unusedVariables false
set_option linter.unusedSimpArgs false
set_option maxHeartbeats 40000000
namespace Go.Proofs.YtipljcmmokaokaaGreat
open Go.RowKit Go.Lib Go.Maps Go.WideMaps
set_option maxRecDepth 100000
theorem sP (p G:Nat) (M:Nat->Prop) (m:List (J.B×J.B)) (C:Array Value) (key:ByteArray) (A:Option Addr) (n c:Nat) (val:List UInt8) (w:World) (q:w.heap[p]? =some (.cells C 99 (0,0))) (t:C[2]? =some (.map (some G))) (f:dx w M G m)
  (P:M G) (g:key.size<=maxLen) (B:bT w M (.slice A n c) val) (V:m.length<=100000000):
  Calls Tryz.prog 119 #[.pointer (some ⟨p,0,none⟩), .agg #[.string key, .slice A n c, .bool false]] w λe w'=>e= .returned (.bool true)/\dx w' M G (J.ins m key.data.toList val)/\w.grownBy w' (some G):=by
 have Z:p<w.heap.size:=(ai q).1;have T:w.cell? ⟨p,2,none⟩=some (.map (some G)):=(ah w p 2 _ _ _ q).trans t;have v:keyOf Tryz.prog 9 (.string key)=some (.string key.data.toList):=keyOf_string_mk Tryz.underlying9 g;have I:=ae v;have i:=ae f;have r:=ae B;have U:(w.alloc (.cells #[.string key, .slice A n c, .bool false] 163)).cell? ⟨p,2,none⟩=some (.map (some G)):=(World.cell?_alloc_lt w _ ⟨p,2,none⟩ Z).trans T;have S:=λj=>World.cell?_alloc_new w #[.string key, .slice A n c, .bool false] 163 j;clear q t f B v;go_enter Tryz.func119,Tryz.ntmps119;go_wp2_with fail;generalize u:w.alloc (.cells #[.string key, .slice A n c, .bool false] 163)=W at U S|-;have s:=ae u;clear u;go_still_tail 8,(by kernel_rfl);have f:=i.o;obtain⟨D,h,Q,o,E⟩:=i.o;have a0:Maps.size D<=100000000:=by rw[f.size_eq h o];exact V
 obtain⟨d,hd⟩:=KX r.o;have x:W.drew.ownsMap Tryz.prog 9 dD G (Maps.size D) D:=by rw[<-s.o];exact(h.alloc _).drew
 have K:=ae x;have L:=ae h;have H:=ae o;have O:=ae E;clear f h Q o E x;go_wp2_with (at_mapUpdate;refine wpList_mapUpdate_own _ rfl _ _ _ 94 rfl 9 40 sM Tryz.underlying94 dD G (Maps.size D) D rfl K.o (by unfold maxLen;omega) _ _ _ rfl rfl I.o d [] hd ?_);intro w3 y b;have a:Below w.heap.size w W.drew:=by rw[<-s.o];exact((ak _ _).alloc (aq _) _).drew
 have l:w.grownBy w3 (some G):=⟨b.os.trans a.os,b.tape.trans a.tape,b.output.trans a.output,aw a.size b.size,λk g Y=>(b.block k (av g a.size) Y).trans (a.block k g)⟩;have z:=dx.put (M':=M) i.o L.o H.o O.o hd r.o y (Step.bg l (λk e _=>by cases e;exact P));have N:=ae z;have F:=ae l;clear y b a l z;go_wp2_with fail;go_ret;exact⟨rfl,N.o,F.o⟩
theorem pI (p G:Nat) (M:Nat->Prop) (m:List (J.B×J.B)) (C:Array Value) (key:ByteArray) (A:Option Addr) (n c:Nat) (w:World) (t:w.heap[p]? =some (.cells C 99 (0,0))) (E:C[2]? =some (.map (some G))) (I:dx w M G m)
  (hM:M G) (f:key.size<=maxLen):
  Calls Tryz.prog 119 #[.pointer (some ⟨p,0,none⟩), .agg #[.string key, .slice A n c, .bool true]] w λe w'=>e= .returned (.bool (J.look m key.data.toList).isSome)/\dx w' M G (J.del m key.data.toList)/\w.grownBy w' (some G):=by
 have a4:p<w.heap.size:=(ai t).1;have a2:w.cell? ⟨p,2,none⟩=some (.map (some G)):=(ah w p 2 _ _ _ t).trans E;have F:keyOf Tryz.prog 9 (.string key)=some (.string key.data.toList):=keyOf_string_mk Tryz.underlying9 f;have x:=ae F;have y:=ae I;have o:(w.alloc (.cells #[.string key, .slice A n c, .bool true] 163)).cell? ⟨p,2,none⟩=some (.map (some G)):=(World.cell?_alloc_lt w _ ⟨p,2,none⟩ a4).trans a2;have i:=λj=>World.cell?_alloc_new w #[.string key, .slice A n c, .bool true] 163 j;clear t E I F;go_enter Tryz.func119,Tryz.ntmps119;go_wp2_with fail;obtain⟨D,s,a0,r,O⟩:=y.o;have h:=s.alloc (.cells #[.string key, .slice A n c, .bool true] 163);have l:Below w.heap.size w (w.alloc (.cells #[.string key, .slice A n c, .bool true] 163)):=(ak _ _).alloc (aq _) _;generalize w.alloc (.cells #[.string key, .slice A n c, .bool true] 163)=W at o i h l|-;have g:∃v,∀n,(Instr.lookup 94 (.map (some G)) (.string key) true).run Tryz.prog (W.drewN n)= .ok (.tuple #[v, .bool (J.look m key.data.toList).isSome]) (W.drewN n):=by
  have H:∀n,∃v P,(Instr.lookup 94 (.map (some G)) (.string key) true).run Tryz.prog (W.drewN n)= .ok (.tuple #[v, .bool (Maps.has D (.string key.data.toList))]) (W.drewN n)/\dD v=some (D.atKey (.string key.data.toList) .nil,P):=λn=>
   World.ownsMap.look_ok (w:=W.drewN n) h sM Tryz.underlying94 (OG _) (show dD (.slice none 0 0)=some (.nil,[])from rfl) x.o
  obtain⟨v,P,_,hv⟩:=H 0;refine⟨v,λn=> ?_⟩;obtain⟨v2,a7,h2,a5⟩:=H n;rw[h2,sL a5 hv,r]
 obtain⟨v,g⟩:=g;have V:=ae s;have z:=ae h;have S:=ae r;have Z:=ae O;have b:=ae l;clear s h a0 r O l;generalize hit:(J.look m key.data.toList).isSome=a6 at g;have T:=ae hit;clear hit;go_quiet (fail);have a3:(W.drewN nq).cell? ⟨p,2,none⟩=some (.map (some G)):=o;have a1:∀j,(W.drewN nq).cell? ⟨w.heap.size,j,none⟩=(#[.string key, .slice A n c, .bool true]:Array Value)[j]? :=i;have B:aa ((W.drewN nq).ownsMap Tryz.prog 9 dD G (Maps.size D) D):=z.o;have u:aa (Below w.heap.size w (W.drewN nq)):=⟨b.o.os,b.o.tape,b.o.output,b.o.size,b.o.block⟩;generalize W.drewN nq=W2 at a3 a1 B u|-;clear o i g z b;go_wp2_with fail;go_still_tail 6,(by kernel_rfl);have U:aa (W2.drew.ownsMap Tryz.prog 9 dD G (Maps.size D) D):=B.o;go_wp2_with (at_delete;refine wpList_delete_own _ rfl _ _ 94 9 rfl 40 sM Tryz.underlying94 dD G (Maps.size D) D rfl U.o _ _ rfl x.o ?_);intro w3 K N;have d:=N.grown;have a:Below w.heap.size w W2.drew:=u.o.drew;have q:w.grownBy w3 (some G):=⟨d.os.trans a.os,d.tape.trans a.tape,d.output.trans a.output,aw a.size d.size,λk f hn=>(d.block k (av f a.size) hn).trans (a.block k f)⟩;have L:=dx.del (M':=M) y.o V.o S.o Z.o K (Step.bg q (λk e _=>by cases e;exact hM));have Y:=ae L;have Q:=ae q;clear K d a q L N;go_wp2_with fail;go_ret;exact⟨by rw[T.o];rfl,Y.o,Q.o⟩
theorem tR {F:Array Oper} {o:Oper} {a:Act} {w:World} {K:Act->World->Prop} {Q:Exit->Act->World->Prop} {E:Prop} (i:o.guard=none) (s x:Operand) (q:o.op= .call {callee:= .builtin .append,args:=#[s,x],argTypes:=#[95,95]})
  (v:Value) (n:Nat) (xs:List Value) (y:a.eval s=v) (r:w.ownsRow 0 163 3 v n xs) (d:Addr) (m c:Nat) (b:List Value) (A:a.eval x= .slice (some d) m c) (l:b.length=m*3) (p:∀j u,b[j]? =some u->w.cell? (d.add j)=some u) (h1:∀u∈b,u.oneCell'=true)
  (H:n+m<=100000000)
  (h:∀v' w',w'.ownsRow 0 163 3 v' (n+m) (xs++b)->w.grownBy w' v.ownBlock->(v'.ownBlock=v.ownBlock\/v'.ownBlock=some w.heap.size)->K (a.put o.dst v') w'):
  if Region.wanted o (yielded F a.tmps)=true then Oper.wp Tryz.prog o a w K Q else E:=by
 obtain⟨i0,k,B,C,D⟩:=info_parts Tryz.Xw;have z:Region.wanted o (yielded F a.tmps)=true:=by simp[Region.wanted,i]
 rw[if_pos z];obtain⟨v',w',t,e,f,G,g⟩:=run_append_own_at (P:=Tryz.prog) w 0 95 o.type 163 i0 _ 3 48 Tryz.underlying95 k B C D rfl (by decide) v n xs r d m c b l p h1 (by unfold maxLen;omega) (by omega) (Nat.zero_le _);unfold Oper.wp execOp;simp only[q,resolve,invoke,builtin,Sem.run_bind,Sem.run_pure,Result.andThen_ok,List.map_toArray,List.map_cons,List.map_nil,y,A,t];exact h v' w' e f g
theorem CY (p:Nat) (M:Nat->Prop) (s:J.St) (key:ByteArray) (A:Option Addr) (n c:Nat) (gone:Bool) (w:World) (h:br w p M s) (D:key.size<=1000) (E:n<=10000)
  (f:4194304 - s.size<3+key.size+if gone then 0 else 4+n):
  Calls Tryz.prog 102 #[.pointer (some ⟨p,0,none⟩), .agg #[.string key, .slice A n c, .bool gone]] w λe w'=>e= .returned (.int .i64 9)/\br w' p M {s with spoilt:=true}/\Step M M w w':=by
 obtain⟨G,V,U,wr,Y,Z,b2,b3,d0,d1,d2,d3,h1,t,u,k⟩:=h;have q:=ae h1;have a:=ae t;have H3:=ae u;have r:=ae k;have C:p<w.heap.size:=(ai h1).1;have F:=k.size;have l:Below w.heap.size w (w.alloc (.cells #[.string key, .slice A n c, .bool gone] 163)):=(ak _ _).alloc (aq _) _;have g:=(l.block p C).trans h1;have z:=aj _ p g;have B:=aD g;have y:=λj=>World.cell?_alloc_new w #[.string key, .slice A n c, .bool gone] 163 j;have b:=ae l;have i:=ae g;clear h1 t u k l g;go_enter Tryz.func102,Tryz.ntmps102;go_upto_region 1 with fail;generalize v:w.alloc (.cells #[.string key, .slice A n c, .bool gone] 163)=W at z B y b i|-;clear v;cases gone with
 |true=>
  have x:(4194304:Int) - (s.size:Int)<3+(key.size:Int):=(by simp at f;omega);clear f;go_wp2_with fail;go_ret;have d:=ay (World.grownBy.refl W (some p)) 5 (.bool true);have m:=aB i.o 5 (.bool true);refine⟨rfl,⟨G,V,U,wr,Y,Z,b2,b3,d0,d1,d2,d3,m,a.o, ?_, ?_⟩,go_step a.o b.o d (λ_ _=>Iff.rfl)⟩
  ·have P:=H3.o.go q.o a.o b.o d (λ_ _=>Iff.rfl);exact⟨P.now,P.mbn,P.was,P.chs,P.mch,P.wrs,P.f0,P.f1,P.f2,P.f3,P.e0,P.e1,P.e2,P.e3,P.dd⟩
  ·have o:=r.o;exact⟨o.size,o.commits,o.gen,o.area,o.side,o.logged,o.writes,o.chs,o.encs,o.clo,o.a0,o.a1,o.h0,o.h1,o.now,o.was⟩
 |false=>
  have x:(4194304:Int) - (s.size:Int)<3+(key.size:Int)+(4+(n:Int)):=(by simp at f;omega);clear f;go_wp2_with fail;go_ret;have d:=ay (World.grownBy.refl W (some p)) 5 (.bool true);have m:=aB i.o 5 (.bool true);refine⟨rfl,⟨G,V,U,wr,Y,Z,b2,b3,d0,d1,d2,d3,m,a.o, ?_, ?_⟩,go_step a.o b.o d (λ_ _=>Iff.rfl)⟩
  ·have P:=H3.o.go q.o a.o b.o d (λ_ _=>Iff.rfl);exact⟨P.now,P.mbn,P.was,P.chs,P.mch,P.wrs,P.f0,P.f1,P.f2,P.f3,P.e0,P.e1,P.e2,P.e3,P.dd⟩
  ·have o:=r.o;exact⟨o.size,o.commits,o.gen,o.area,o.side,o.logged,o.writes,o.chs,o.encs,o.clo,o.a0,o.a1,o.h0,o.h1,o.now,o.was⟩
theorem fE {w:World} {base:Nat} {e:TypeId} {size n g:Nat} {v:Value} {xs:List Value} {M:Nat->Prop} {m:List (J.B×J.B)} (h:w.ownsRow base e size v n xs) (c:dx w M g m):v.ownBlock≠some g:=by
 obtain⟨D,⟨f,d,a,_⟩,_⟩:=c;rcases h.2 with⟨rfl,_⟩|⟨g',cap,cur,rfl,_,hh,_⟩
 ·simp[Value.ownBlock]
 ·intro b;have:g'=g:=(by simpa [Value.ownBlock] using b);subst this;rw[a]at hh;injection hh with hh;cases hh
theorem jA {w:World} {g:Nat} {v:Value} {l:List UInt8} {M:Nat->Prop} {m:List (J.B×J.B)} (h:fP w M v l) (c:dx w M g m) (a:M g):v.ownBlock≠some g:=by
 rcases h with⟨h1,_⟩|⟨rfl,_⟩|⟨b,o,rfl,_,e,d,_⟩
 ·exact fE h1 c
 ·simp[Value.ownBlock]
 ·simp[Value.ownBlock];rintro rfl;exact d a
theorem fx {w:World} {M:Nat->Prop} {v:Value} {l:List UInt8} (ha:fP w M v l) (k:Nat) (e:v.ownBlock=some k):k<w.heap.size:=by
 rcases ha with⟨h1,_⟩|⟨rfl,_⟩|⟨b,o,rfl,_,⟨a,_⟩,_,_⟩
 ·exact(h1.lt k e).2
 ·cases e
 ·simp[Value.ownBlock]at e;omega
section
variable {w w' : World} {M M' : Nat -> Prop} {s : J.St} {G : Nat} {V : Option Nat} {U wr Y Z b2 b3 d0 d1 d2 d3 : Value}
theorem cA.map {m:List (J.B×J.B)} (h:cA w M s G V U wr Y Z b2 b3 d0 d1 d2 d3) (j:w.grownBy w' (some G)) (o:dx w' M G m):cA w' M {s with now:=m} G V U wr Y Z b2 b3 d0 d1 d2 d3:=by
 have a:Step M M w w':=Step.bg j (λk e _=>by cases e;exact h.mbn);have f:∀k,k<w.heap.size->k≠G->w'.heap[k]? =w.heap[k]? :=λk n p=>j.block k n (λe=>p (by injection e));refine⟨o,h.mbn, ?_,h.chs.keep a h.mch (λk e=> ?_),h.mch,h.wrs.keep a (λk e=> ?_) (λk e=> ?_),h.f0.step a,h.f1.step a,h.f2.step a,h.f3.step a,h.e0.step a,h.e1.step a,
  h.e2.keep a (λk _ m=>m) (λk e _=>f k (fx h.e2 k e) (λc=>jA h.e2 h.now h.mbn (c▸e))),h.e3.keep a (λk _ m=>m) (λk e _=>f k (fx h.e3 k e) (λc=>jA h.e3 h.now h.mbn (c▸e))),h.dd⟩
 ·cases V with
  |none=>exact h.was
  |some b=>obtain⟨g1,g,l,i⟩:=h.was;exact⟨g1,g.step a (f b g.lt i),l,i⟩
 ·obtain⟨vs,_,d,_⟩:=h.chs;exact f k (d.lt k e).2 (λc=>fE d h.now (c▸e))
 ·obtain⟨vs,_,_,d,_⟩:=h.wrs;exact d k e
 ·obtain⟨vs,_,d,_⟩:=h.wrs;exact f k (d.lt k e).2 (λc=>fE d h.now (c▸e))
theorem cA.Zu {L:List J.cd} {v':Value} {n:Nat} (h:cA w M s G V U wr Y Z b2 b3 d0 d1 d2 d3) (a:Step M M' w w') (f:∀k,M k->M' k) (d:∀k,k<w.heap.size->U.ownBlock≠some k->w'.heap[k]? =w.heap[k]?) (t:dT w' M' 0 v' L) (x:∀k,v'.ownBlock=some k->M' k):
  cA w' M' {s with changes:=L,size:=n} G V v' wr Y Z b2 b3 d0 d1 d2 d3:=by
 obtain⟨vs,g1,i,D⟩:=h.chs;have r:∀{e:TypeId} {v:Value} {base size n:Nat} {xs:List Value},e≠163->w.ownsRow base e size v n xs->∀k,v.ownBlock=some k->U.ownBlock≠some k:=by
  intro e v base size n xs u y k c q;rcases i.2 with⟨rfl,_⟩|⟨g',cap,cur,rfl,_,hh,_⟩
  ·simp[Value.ownBlock]at q
  ·have:g'=k:=(by simpa [Value.ownBlock] using q);subst this;exact df y hh u c
 have p:∀{v:Value} {l:List UInt8},fP w M v l->∀k,v.ownBlock=some k->U.ownBlock≠some k:=by
  intro v l ha k c;rcases ha with⟨h1,_⟩|⟨rfl,_⟩|⟨b,o,rfl,_,E,z,_⟩
  ·exact r (by decide) h1 k c
  ·cases c
  ·simp[Value.ownBlock]at c;subst c;exactλe=>z (h.mch _ e)
 refine⟨h.now.step a (d G h.now.lt (fE i h.now)),f _ h.mbn, ?_,t,x,h.wrs.keep a (λk e=> ?_) (λk e=> ?_),h.f0.step a,h.f1.step a,h.f2.step a,h.f3.step a,h.e0.step a,h.e1.step a,
  h.e2.keep a (λk _ m=>f k m) (λk e _=>d k (fx h.e2 k e) (p h.e2 k e)),h.e3.keep a (λk _ m=>f k m) (λk e _=>d k (fx h.e3 k e) (p h.e3 k e)),
  λk e2 e3 m=>h.dd k e2 e3 (a.sub k (fx h.e2 k e2) m)⟩
 ·cases V with
  |none=>exact h.was
  |some b=>obtain⟨A,j,B,C⟩:=h.was;exact⟨A,j.step a (d b j.lt (fE i j)),f _ B,C⟩
 ·obtain⟨vs,_,_,g,_⟩:=h.wrs;exact f _ (g k e)
 ·obtain⟨vs,_,g,_⟩:=h.wrs;exact d k (g.lt k e).2 (r (by decide) g k e)
end
section
variable {w W w1 : World} {M : Nat -> Prop} {s : J.St} {G : Nat} {V : Option Nat} {U wr Y Z b2 b3 d0 d1 d2 d3 v1 x : Value} {p : Nat} {o : Obj} {C : Array Value}
theorem Jm {vs:List Value} {L:List J.cd} {cg:J.cd} (h:cA w M s G V U wr Y Z b2 b3 d0 d1 d2 d3) (m:s.changes=L) (a:Below w.heap.size w W) (h1:vs.length=L.length) (l:∀i (h:i<L.length) (C:i<vs.length),bT w (λk=>M k\/U.ownBlock=some k) vs[i] L[i].val)
  (v:bT w M x cg.val)
  (t:w1.ownsRow 0 163 3 v1 (L.length+1) (dc L vs++[.string ⟨cg.key.toArray⟩,x, .bool cg.gone])) (b:W.grownBy w1 U.ownBlock) (g:v1.ownBlock=U.ownBlock\/v1.ownBlock=some W.heap.size) (n:Nat):
  cA w1 (λk=>M k\/v1.ownBlock=some k) {s with changes:=L++[cg],size:=n} G V v1 wr Y Z b2 b3 d0 d1 d2 d3/\Step M (λk=>M k\/v1.ownBlock=some k) w w1:=by
 subst m;have D:∀k,U.ownBlock=some k->k<w.heap.size:=λk e=>by obtain⟨vs,_,j,_⟩:=h.chs;exact(j.lt k e).2
 have o:∀k,(M k\/U.ownBlock=some k)↔M k:=λk=>⟨λe=>e.elim id (h.mch k), .inl⟩;have hst:Step M (λk=>M k\/v1.ownBlock=some k) w w1:=by
  refine⟨b.os.trans a.os,b.tape.trans a.tape,b.output.trans a.output,aw a.size b.size,λk c f=> ?_,λk c e=> ?_⟩
  ·exact(b.block k (av c a.size) (λe=>f (h.mch k e.symm))).trans (a.block k c)
  ·rcases e with e|e
   ·exact e
   ·rcases g with d|d
    ·exact h.mch k (d▸e)
    ·rw[d]at e;injection e with e;have:=a.size;omega
 refine⟨h.Zu hst (λk=> .inl) (λk c f=>(b.block k (av c a.size) (λe=>f e.symm)).trans (a.block k c)) ?_ (λk e=> .inr e),hst⟩;have p:(λk=>M k\/U.ownBlock=some k)=M:=funext λk=>propext (o k);have u:dT w1 M 0 v1 (s.changes++[cg]):=dT.push h1 l a t b g (by rw[p];exact v.step (Step.aC a));obtain⟨B,y,z,A⟩:=u;refine⟨B,y,z,λi q r=> ?_⟩;have:=A i q r
 rwa [show(λk=>(M k\/v1.ownBlock=some k)\/v1.ownBlock=some k)=(λk=>M k\/v1.ownBlock=some k)from funext λk=>propext ⟨λe=>e.elim id .inr, .inl⟩]
theorem add_mid (h:cA w1 M s G V U wr Y Z b2 b3 d0 d1 d2 d3) (c:w1.heap[p]? =some (.cells C 99 (0,0))) (b:M p) (u v:Value):
  cA ((w1.setCell ⟨p,3,none⟩ u).setCell ⟨p,4,none⟩ v) M s G V U wr Y Z b2 b3 d0 d1 d2 d3/\((w1.setCell ⟨p,3,none⟩ u).setCell ⟨p,4,none⟩ v).heap[p]? =some (.cells ((C.setIfInBounds 3 u).setIfInBounds 4 v) 99 (0,0))/\Step M M w1 ((w1.setCell ⟨p,3,none⟩ u).setCell ⟨p,4,none⟩ v):=by
 have a:=ay (ay (World.grownBy.refl w1 (some p)) 3 u) 4 v;exact⟨h.own c b a,aB (aB c 3 u) 4 v,Step.bg a (λk e _=>by cases e;exact b)⟩
theorem Jn {a b:World} {m:List (J.B×J.B)} (h:cA a M s G V U wr Y Z b2 b3 d0 d1 d2 d3) (d:a.heap[p]? =some (.cells (bK s G V U wr Y Z b2 b3 d0 d1 d2 d3) 99 (0,0))) (f:M p)
  (c:a.grownBy b (some G)) (l:dx b M G m) (i:Ok {s with now:=m}):br b p M {s with now:=m}/\Step M M a b:=by
 have j:p<a.heap.size:=(ai d).1;have g:p≠G:=λe=>h.ne d f (.inl e);exact⟨⟨G,V,U,wr,Y,Z,b2,b3,d0,d1,d2,d3,(c.block p j (λe=>g (by injection e))).trans d,f,h.map c l,i⟩,Step.bg c (λk e _=>by cases e;exact h.mbn)⟩
end
theorem yR (s:J.St) (G:Nat) (V:Option Nat) (U v1 wr Y Z b2 b3 d0 d1 d2 d3:Value) (L:List J.cd) (n:Nat) (z:Int) (a:z=(n:Nat)):
  ((bK s G V U wr Y Z b2 b3 d0 d1 d2 d3).setIfInBounds 3 v1).setIfInBounds 4 (.int .i64 z)=bK {s with changes:=L,size:=n} G V v1 wr Y Z b2 b3 d0 d1 d2 d3:=by subst a;rfl
theorem OL {s:J.St} {c:J.cd} (o:Ok s) (a:s.opn=true) (f:c.len<=4194304 - s.size) (b:c.gone=true->c.val=[]):Ok (J.apply {s with changes:=s.changes++[c],size:=s.size+c.len} c):=by
 have i:=o.encs a;have g:(J.encs (s.changes++[c])).length=(J.encs s.changes).length+c.len:=by rw[J.gK];simp[J.encs,J.zR]
 have k:=o.now;have h:=o.chs;have l:=o.size;have j:3<=c.len:=by simp only[J.cd.len];omega
 have _:=b;refine⟨by show s.size+c.len<=_;omega,o.commits,o.gen,o.area,o.side,o.logged,o.writes,by show(s.changes++[c]).length<=s.size+c.len;simp;omega,λ_=>by show(J.encs (s.changes++[c])).length+13=s.size+c.len;omega,λe=>absurd (a.symm.trans e) (by simp),o.a0,o.a1,o.h0,o.h1, ?_,o.was⟩;show(J.encs (J.values (if c.gone then J.del s.now c.key else J.ins s.now c.key c.val))).length<=8388608+s.logged+(J.encs (s.changes++[c])).length;cases hgo:c.gone with
 |true=>have:=J.vG s.now c.key;simp;omega
 |false=>
  have h1:=J.CA s.now c.key c.val;have d:c.len=7+c.key.length+c.val.length:=(by simp only[J.cd.len,hgo];simp;omega);simp;omega
end Go.Proofs.YtipljcmmokaokaaGreat
namespace Go.Proofs.YtipljcmmokaokaaGreat
open Go
section
variable {P : Program} {F : Array Oper} {Q : Exit -> Act -> World -> Prop} {md : Region.Mode} {S : World -> Prop}
def wpAnyT (P:Program) (md:Region.Mode) (F:Array Oper) (Q:Exit->Act->World->Prop) (S:World->Prop) (n:Nat):Nat->Array Bool->Act->World->Prop
 |0,listed,a,w=>Region.ready md F listed=[]/\Q .normal a w
 |f+1,listed,a,w=>(Region.ready md F listed=[]->Q .normal a w)/\
  ∀i∈Region.ready md F listed,wpOp P F Q i (λa' w'=>(i<n->S w')/\wpAnyT P md F Q S n f (listed.setIfInBounds i true) a' w') a w
theorem lJ {n:Nat}:∀(b:Nat) (c:Array Bool) (a:Act) (w:World),wpAnyT P md F Q S n b c a w->wpAny P md F Q b c a w
 |0,_,_,_,h=>h
 |b+1,_,_,_,h=>⟨h.1,λi f=>wpOp_mono (λd w' e=>lJ b _ d w' e.2) (h.2 i f)⟩
theorem qW {n i:Nat} {l:Oper} {v:Value} (u:F[i]? =some l) (C:∀(j:Nat) (o:Oper) cs b,F[j]? =some o->o.op≠ .select cs b)
  (I:∀c a w,Q (.panic c) (a.put l.dst v) w->Q (.panic c) a w) (hs:Region.sinkB md F n=true) (M:Region.chainB md F n=true) (Y:n<F.size) (U:i<n):
  ∀(q:Nat) (d:Array Bool) (a:Act) (w:World),HeadInv md F n d->
   (∀j m,F[j]? =some m->j≠i->d.getD j true=false->(∀e∈m.after,Region.binds md e=true->e.on≠i)->l.apart F m=true)->
   i∈Region.ready md F d->YieldsIf P F S l v a->S w->
   wpAnyT P md F Q S n q (d.setIfInBounds i true) (a.put l.dst v) w->wpAnyT P md F Q S n (q+1) d a w:=by
 intro q
 induction q with
 |zero=>
  intro d a w _ _ g t r H;refine⟨λh=>(by rw[h]at g;cases g),λj p=> ?_⟩;by_cases f:j=i
  ·subst f;exact t.wpOp u r ⟨λ_=>r,H⟩
  ·have:=ready_mono p f;rw[H.1]at this;cases this
 |succ q ih=>
  intro d a w inv z g t r H;refine⟨λh=>(by rw[h]at g;cases g),λj p=> ?_⟩;have x:j<n:=by
   rcases Nat.lt_or_ge j n with h|h
   ·exact h
   ·exact absurd p (tail_waits hs M Y inv _ i rfl U (mem_ready.1 g).1 j h)
  by_cases f:j=i
  ·subst f;exact t.wpOp u r ⟨λ_=>r,H⟩
  ·have h1:=H.2 j (ready_mono p f);obtain⟨B,m,y,K⟩:=mem_ready.1 p;have a0:∀e∈m.after,Region.binds md e=true->e.on≠i:=λe N L O=>by
    have h1:=K e N L;rw[O,getD_both (mem_ready.1 g).1]at h1;cases h1
   have G:=wpOp_putIf y (z j m y f B a0) (λcs b=>C i l cs b u) (λcs b=>C j m cs b y) I t h1;have T:∀k ok,F[k]? =some ok->k≠i->(d.setIfInBounds j true).getD k true=false->
     (∀e∈ok.after,Region.binds md e=true->e.on≠i)->l.apart F ok=true:=λk ok V W D Z=>by
    refine z k ok V W ?_ Z;by_cases A:j=k
    ·subst A;exact B
    ·rw[getD_set_ne true A]at D;exact D
   refine wpOp_mono (λE w' s=>⟨λ_=>s.2.1 x,ih (d.setIfInBounds j true) E w' (inv.set p x) T (ready_mono g (Ne.symm f)) s.1 (s.2.1 x) ?_⟩) G;rw[Array.setIfInBounds_comm _ _ f];exact s.2.2
theorem gF {n:Nat}:∀(l:List Oper) (k:Nat) (b:Array Bool) (a:Act) (w:World),n<=k->(∀j,l[j]? =F[k+j]?)->
  Region.seqB md F l.length k b=true->wpList P F Q l a w->wpAnyT P md F Q S n l.length b a w
 |[],_,_,_,_,_,_,hB,h=>⟨by simpa [Region.seqB] using hB,h⟩
 |o::l,k,b,a,w,hnk,hl,hB,h=>by
  have h0:F[k]? =some o:=(by simpa using (hl 0).symm);simp only[List.length_cons,Region.seqB,Bool.and_eq_true,decide_eq_true_eq]at hB;refine⟨λh1=>(by rw[hB.1]at h1;cases h1),λi c=> ?_⟩;rw[hB.1]at c;have f:i=k:=(by simpa using c);subst f;have m:wpOp P F Q i (wpList P F Q l) a w:=(by unfold wpOp;simp only[h0];exact h);exact wpOp_mono (λd w' e=>⟨λg=>absurd g (by omega),gF l (i+1) _ d w' (by omega) (λj=>by have:=hl (j+1);simpa [Nat.add_assoc,Nat.add_comm 1 j] using this) hB.2 e⟩) m
def Da (md:Region.Mode) (F:Array Oper) (n g:Nat):List (Nat×Bool)->Array Bool->Bool
 |[],listed=>Region.seqB md F g n listed
 |(i,b)::t,listed=>decide (i<n)&&(Region.ready md F listed).contains i&&(if b then decide (Region.ready md F listed=[i])else Region.free md F listed i)&&Da md F n g t (listed.setIfInBounds i true)
def wpPlan (P:Program) (F:Array Oper) (Q:Exit->Act->World->Prop) (S:World->Prop) (L:Act->World->Prop):List (Nat×Bool)->Act->World->Prop
 |[],a,w=>L a w
 |(i,false)::t,a,w=>∃o v,F[i]? =some o/\YieldsIf P F S o v a/\wpPlan P F Q S L t (a.put o.dst v) w
 |(i,true)::t,a,w=>wpOp P F Q i (λa' w'=>S w'/\wpPlan P F Q S L t a' w') a w
theorem nb {n:Nat} {tl:List Oper} (s:Region.noSelect F=true) (r:Region.sinkB md F n=true) (m:Region.chainB md F n=true) (p:n<F.size) (l:∀c a d v w,Q (.panic c) (Act.put a d v) w->Q (.panic c) a w) (u:∀j,tl[j]? =F[n+j]?):
  ∀(x:List (Nat×Bool)) (b:Array Bool) (a:Act) (w:World),HeadInv md F n b->Da md F n tl.length x b=true->S w->
   wpPlan P F Q S (λa w=>wpList P F Q tl a w) x a w->wpAnyT P md F Q S n (x.length+tl.length) b a w
 |[],b,a,w,inv,hB,hS,h=>by
  rw[List.length_nil,Nat.zero_add];exact gF tl n b a w (aq _) u hB h
 |(i,false)::t,b,a,w,inv,hB,hS,h=>by
  simp only[Da,Bool.and_eq_true,decide_eq_true_eq]at hB;obtain⟨⟨⟨f,q⟩,B⟩,k⟩:=hB;obtain⟨o,v,z,E,C⟩:=h;have e:i∈Region.ready md F b:=(by simpa using q);rw[List.length_cons,show t.length+1+tl.length=(t.length+tl.length)+1 by omega];exact qW z (Region.noSelect_spec s) (λc a w h=>l c a _ _ w h) r m p f _ b a w inv (Region.free_spec z B) e E hS
   (nb s r m p l u t _ _ w (inv.set e f) k hS C)
 |(i,true)::t,b,a,w,inv,hB,hS,h=>by
  simp only[Da,Bool.and_eq_true,decide_eq_true_eq,if_true]at hB;obtain⟨⟨⟨f,q⟩,D⟩,k⟩:=hB;have e:i∈Region.ready md F b:=(by simpa using q);rw[List.length_cons,show t.length+1+tl.length=(t.length+tl.length)+1 by omega];refine⟨λh1=>(by rw[h1]at e;cases e),λj y=> ?_⟩;rw[D]at y;obtain rfl:j=i:=(by simpa using y);exact wpOp_mono (λA w' g=>⟨λ_=>g.1,nb s r m p l u t _ A w' (inv.set e f) k g.1 g.2⟩) h
def yS (md:Region.Mode) (F:Array Oper) (n:Nat) (dg:List (Nat×Bool)):Bool:=
 Region.noSelect F&&decide (n<F.size)&&decide (dg.length=n)&&Region.sinkB md F n&&Region.chainB md F n&&Da md F n (F.size - n) dg (Array.replicate F.size false)
theorem bh {id:Nat} {a:Act} {w:World} {l:List Oper} (n:Nat) (b:List (Nat×Bool)) (S:World->Prop) (r:P.follows .mixedOrders=true) (f:yS .any l.toArray n b=true) (o:∀c a d v w,Q (.panic c) (Act.put a d v) w->Q (.panic c) a w) (p:S w.drew)
  (h:wpPlan P l.toArray Q S (λm w'=>wpList P l.toArray Q (l.drop n) m w') b a w.drew):(Code.region id l.toArray true).wp P Q a w:=by
 simp only[yS,Bool.and_eq_true,decide_eq_true_eq]at f;obtain⟨⟨⟨⟨⟨y,k⟩,u⟩,x⟩,q⟩,s⟩:=f;have B:n<l.length:=by simpa using k
 have g:(l.drop n).length=l.toArray.size - n:=by simp
 have A:HeadInv .any l.toArray n (Array.replicate l.toArray.size false):=
  ⟨by simp,λj C _ i=>(by rw[getD_replicate_false]at i;cases i),λt _ z=>getD_in (by simpa using z) (getD_replicate_false _ _)⟩
 have H:=nb (md:= .any) (tl:=l.drop n) y x q k o (λj=>by simp[List.getElem?_drop]) b _ a w.drew A (by rw[g];exact s) p h;refine wp_region_any r ?_;have e:=lJ _ _ _ _ H;rw[g,u,show n+(l.toArray.size - n)=l.toArray.size by omega]at e;exact e
theorem bS {L:Act->World->Prop} {i:Nat} {o:Oper} {t:List (Nat×Bool)} {a:Act} {w:World} {v:Value} (c:F[i]? =some o) (b:o.guard=none) (d:∀w',S w'->(execOp a.eval o).run P w'= .ok (.value v) w')
  (h:∀K:Act->Prop,(∀a,wpPlan P F Q S L t a w->K a)->K (a.put o.dst v)):wpPlan P F Q S L ((i,false)::t) a w:=
 ⟨o,v,c, .inl ⟨by simp[Region.wanted,b],d⟩,h _ λ_ h=>h⟩
theorem bG {L:Act->World->Prop} {i:Nat} {o:Oper} {t:List (Nat×Bool)} {a:Act} {w:World} (e:F[i]? =some o)
  (h:∀K:Act->World->Prop,Shut (∀a w,S w->wpPlan P F Q S L t a w->K a w)->if Region.wanted o (yielded F a.tmps)=true then Oper.wp P o a w K Q else K (a.put o.dst undef) w):wpPlan P F Q S L ((i,true)::t) a w:=
 wpOp_step e (λK b=>h K (λa w c d=>b a w ⟨c,d⟩))
end
section
variable {P : Program} {F : Array Oper} {Q : Exit -> Act -> World -> Prop} {md : Region.Mode} {O N : World -> Prop} {late wr : List Nat}
def Uf (O N:World->Prop) (late:List Nat) (i:Nat):World->Prop:=λw=>N w/\(late.contains i=false->O w)
def Db (md:Region.Mode) (F:Array Oper) (n:Nat) (late:List Nat) (j:Nat):Bool:=(List.range n).any λi=> !late.contains i&& !Region.waitsFor md F j i
def yT (md:Region.Mode) (F:Array Oper) (O N:World->Prop) (late wr:List Nat) (n j:Nat) (w w':World):Prop:=
 if wr.contains j=true then N w'/\(Db md F n late j=true->O w')else w'=w
def wpAnyU (P:Program) (md:Region.Mode) (F:Array Oper) (Q:Exit->Act->World->Prop) (O N:World->Prop) (late wr:List Nat) (n:Nat):Nat->Array Bool->Act->World->Prop
 |0,listed,a,w=>Region.ready md F listed=[]/\Q .normal a w
 |f+1,listed,a,w=>(Region.ready md F listed=[]->Q .normal a w)/\
  ∀i∈Region.ready md F listed,wpOp P F Q i (λa' w'=>(i<n->yT md F O N late wr n i w w')/\wpAnyU P md F Q O N late wr n f (listed.setIfInBounds i true) a' w') a w
theorem vZ {n:Nat}:∀(b:Nat) (c:Array Bool) (a:Act) (w:World),wpAnyU P md F Q O N late wr n b c a w->wpAny P md F Q b c a w
 |0,_,_,_,h=>h
 |b+1,_,_,_,h=>⟨h.1,λi f=>wpOp_mono (λd w' e=>vZ b _ d w' e.2) (h.2 i f)⟩
theorem Ug {n i j:Nat} {b:Array Bool} (h:i<n) (l:late.contains i=false) (k:j∈Region.ready md F b) (g:b.getD i true=false):Db md F n late j=true:=by
 refine List.any_eq_true.2 ⟨i,List.mem_range.2 h, ?_⟩;rw[l];cases hw:Region.waitsFor md F j i with
 |false=>rfl
 |true=>
  exfalso;obtain⟨q,o,e,f,d,p⟩:=Region.waitsFor_spec hw;obtain⟨_,o2,m,c⟩:=mem_ready.1 k;have:o2=q:=Option.some.inj (m.symm.trans o);subst this;have a:=c e f d;rw[p,getD_both g]at a;cases a
theorem Ae {n i:Nat} {m:Oper} {v:Value} (y:F[i]? =some m) (G:∀(j:Nat) (o:Oper) cs b,F[j]? =some o->o.op≠ .select cs b)
  (M:∀c a w,Q (.panic c) (a.put m.dst v) w->Q (.panic c) a w) (hs:Region.sinkB md F n=true) (U:Region.chainB md F n=true) (hn:n<F.size) (C:i<n) (a4:wr.contains i=false):
  ∀(r:Nat) (d:Array Bool) (a:Act) (w:World),HeadInv md F n d->
   (∀j p,F[j]? =some p->j≠i->d.getD j true=false->(∀e∈p.after,Region.binds md e=true->e.on≠i)->m.apart F p=true)->
   i∈Region.ready md F d->YieldsIf P F (Uf O N late i) m v a->Uf O N late i w->
   wpAnyU P md F Q O N late wr n r (d.setIfInBounds i true) (a.put m.dst v) w->wpAnyU P md F Q O N late wr n (r+1) d a w:=by
 have I:∀w:World,yT md F O N late wr n i w w:=λw=>by unfold yT;rw[if_neg (by rw[a4];simp)]
 intro r
 induction r with
 |zero=>
  intro d a w _ _ l x u H;refine⟨λh=>(by rw[h]at l;cases l),λj g=> ?_⟩;by_cases f:j=i
  ·subst f;exact x.wpOp y u ⟨λ_=>I _,H⟩
  ·have:=ready_mono g f;rw[H.1]at this;cases this
 |succ r ih=>
  intro d a w inv B l x u H;have q:=(mem_ready.1 l).1;refine⟨λh=>(by rw[h]at l;cases l),λj g=> ?_⟩;have z:j<n:=by
   rcases Nat.lt_or_ge j n with h|h
   ·exact h
   ·exact absurd g (tail_waits hs U hn inv _ i rfl C q j h)
  by_cases f:j=i
  ·subst f;exact x.wpOp y u ⟨λ_=>I _,H⟩
  ·have h1:=H.2 j (ready_mono g f);obtain⟨E,p,A,S⟩:=mem_ready.1 g;have a3:∀e∈p.after,Region.binds md e=true->e.on≠i:=λe V T W=>by
    have h1:=S e V T;rw[W,getD_both q]at h1;cases h1
   have L:=wpOp_putIf A (B j p A f E a3) (λcs b=>G i m cs b y) (λcs b=>G j p cs b A) M x h1;have Y:∀k ok,F[k]? =some ok->k≠i->(d.setIfInBounds j true).getD k true=false->
     (∀e∈ok.after,Region.binds md e=true->e.on≠i)->m.apart F ok=true:=λk ok Z a0 q a2=>by
    refine B k ok Z a0 ?_ a2;by_cases D:j=k
    ·subst D;exact E
    ·rw[getD_set_ne true D]at q;exact q
   have a1:∀w',yT md F O N late wr n j w w'->Uf O N late i w':=by
    intro w' s;unfold yT at s;split at s
    ·exact⟨s.1,λhl=>s.2 (Ug C hl g q)⟩
    ·rw[s];exact u
   refine wpOp_mono (λK w' t=>⟨λ_=>t.2.1 z,ih (d.setIfInBounds j true) K w' (inv.set g z) Y (ready_mono l (Ne.symm f)) t.1 (a1 w' (t.2.1 z)) ?_⟩) L;rw[Array.setIfInBounds_comm _ _ f];exact t.2.2
theorem oF {n:Nat}:∀(l:List Oper) (k:Nat) (b:Array Bool) (a:Act) (w:World),n<=k->(∀j,l[j]? =F[k+j]?)->
  Region.seqB md F l.length k b=true->wpList P F Q l a w->wpAnyU P md F Q O N late wr n l.length b a w
 |[],_,_,_,_,_,_,hB,h=>⟨by simpa [Region.seqB] using hB,h⟩
 |o::l,k,b,a,w,hnk,hl,hB,h=>by
  have h0:F[k]? =some o:=(by simpa using (hl 0).symm);simp only[List.length_cons,Region.seqB,Bool.and_eq_true,decide_eq_true_eq]at hB;refine⟨λh1=>(by rw[hB.1]at h1;cases h1),λi c=> ?_⟩;rw[hB.1]at c;have f:i=k:=(by simpa using c);subst f;have m:wpOp P F Q i (wpList P F Q l) a w:=(by unfold wpOp;simp only[h0];exact h);exact wpOp_mono (λd w' e=>⟨λg=>absurd g (by omega),oF l (i+1) _ d w' (by omega) (λj=>by have:=hl (j+1);simpa [Nat.add_assoc,Nat.add_comm 1 j] using this) hB.2 e⟩) m
def wh (md:Region.Mode) (F:Array Oper) (late wr:List Nat) (n g:Nat):Bool->List (Nat×Bool)->Array Bool->Bool
 |_,[],listed=>Region.seqB md F g n listed
 |c,(i,b)::t,listed=>decide (i<n)&&(Region.ready md F listed).contains i&&(b==wr.contains i)&&
  (if b then decide (Region.ready md F listed=[i])else Region.free md F listed i&&(c||late.contains i))&&wh md F late wr n g (if b then c&&Db md F n late i else c) t (listed.setIfInBounds i true)
def wpPlanU (P:Program) (md:Region.Mode) (F:Array Oper) (Q:Exit->Act->World->Prop) (O N:World->Prop) (late:List Nat) (n:Nat) (L:Act->World->Prop):List (Nat×Bool)->Act->World->Prop
 |[],a,w=>L a w
 |(i,false)::t,a,w=>∃o v,F[i]? =some o/\YieldsIf P F (Uf O N late i) o v a/\wpPlanU P md F Q O N late n L t (a.put o.dst v) w
 |(i,true)::t,a,w=>wpOp P F Q i (λa' w'=>(N w'/\(Db md F n late i=true->O w'))/\wpPlanU P md F Q O N late n L t a' w') a w
theorem nd {n:Nat} {tl:List Oper} (s:Region.noSelect F=true) (r:Region.sinkB md F n=true) (m:Region.chainB md F n=true) (p:n<F.size) (l:∀c a d v w,Q (.panic c) (Act.put a d v) w->Q (.panic c) a w) (u:∀j,tl[j]? =F[n+j]?):
  ∀(y:List (Nat×Bool)) (c:Bool) (b:Array Bool) (a:Act) (w:World),HeadInv md F n b->wh md F late wr n tl.length c y b=true->N w->(c=true->O w)->
   wpPlanU P md F Q O N late n (λa w=>wpList P F Q tl a w) y a w->wpAnyU P md F Q O N late wr n (y.length+tl.length) b a w
 |[],c,b,a,w,inv,hB,hS,hS1,h=>by
  rw[List.length_nil,Nat.zero_add];exact oF tl n b a w (aq _) u hB h
 |(i,false)::t,c,b,a,w,inv,hB,hS,hS1,h=>by
  simp only[wh,Bool.and_eq_true,decide_eq_true_eq,Bool.or_eq_true,Bool.false_eq_true,if_false,beq_iff_eq]at hB;obtain⟨⟨⟨⟨g,q⟩,x⟩,E,D⟩,k⟩:=hB;obtain⟨o,v,B,K,G⟩:=h;have e:i∈Region.ready md F b:=(by simpa using q);rw[List.length_cons,show t.length+1+tl.length=(t.length+tl.length)+1 by omega];exact Ae B (Region.noSelect_spec s) (λc a w h=>l c a _ _ w h) r m p g x.symm _ b a w inv (Region.free_spec B E) e K ⟨hS,λH=>by
    rcases D with h|h
    ·exact hS1 h
    ·rw[H]at h;cases h⟩
   (nd s r m p l u t c _ _ w (inv.set e g) k hS hS1 G)
 |(i,true)::t,c,b,a,w,inv,hB,hS,hS1,h=>by
  simp only[wh,Bool.and_eq_true,decide_eq_true_eq,if_true,beq_iff_eq]at hB;obtain⟨⟨⟨⟨g,q⟩,x⟩,I⟩,k⟩:=hB;have e:i∈Region.ready md F b:=(by simpa using q);rw[List.length_cons,show t.length+1+tl.length=(t.length+tl.length)+1 by omega];refine⟨λh1=>(by rw[h1]at e;cases e),λj A=> ?_⟩;rw[I]at A;obtain rfl:j=i:=(by simpa using A);exact wpOp_mono (λC w' f=>⟨λ_=>by unfold yT;rw[if_pos x.symm];exact f.1,nd s r m p l u t _ _ C w' (inv.set e g) k f.1.1 (λz=>f.1.2 (by simp only[Bool.and_eq_true]at z;exact z.2)) f.2⟩) h
def wm (md:Region.Mode) (F:Array Oper) (late wr:List Nat) (n:Nat) (dg:List (Nat×Bool)):Bool:=
 Region.noSelect F&&decide (n<F.size)&&decide (dg.length=n)&&Region.sinkB md F n&&Region.chainB md F n&&wh md F late wr n (F.size - n) true dg (Array.replicate F.size false)
theorem my {id:Nat} {a:Act} {w:World} {l:List Oper} (n:Nat) (late wr:List Nat) (b:List (Nat×Bool)) (O N:World->Prop) (s:P.follows .mixedOrders=true) (f:wm .any l.toArray late wr n b=true) (o:∀c a d v w,Q (.panic c) (Act.put a d v) w->Q (.panic c) a w) (p:O w.drew) (q:N w.drew)
  (h:wpPlanU P .any l.toArray Q O N late n (λm w'=>wpList P l.toArray Q (l.drop n) m w') b a w.drew):(Code.region id l.toArray true).wp P Q a w:=by
 simp only[wm,Bool.and_eq_true,decide_eq_true_eq]at f;obtain⟨⟨⟨⟨⟨z,k⟩,x⟩,y⟩,r⟩,u⟩:=f;have C:n<l.length:=by simpa using k
 have g:(l.drop n).length=l.toArray.size - n:=by simp
 have B:HeadInv .any l.toArray n (Array.replicate l.toArray.size false):=
  ⟨by simp,λj D _ i=>(by rw[getD_replicate_false]at i;cases i),λt _ A=>getD_in (by simpa using A) (getD_replicate_false _ _)⟩
 have H:=nd (md:= .any) (late:=late) (wr:=wr) (tl:=l.drop n) z y r k o (λj=>by simp[List.getElem?_drop]) b true _ a w.drew B (by rw[g];exact u) q (λ_=>p) h;refine wp_region_any s ?_;have e:=vZ _ _ _ _ H;rw[g,x,show n+(l.toArray.size - n)=l.toArray.size by omega]at e;exact e
theorem ib {n:Nat} {L:Act->World->Prop} {i:Nat} {o:Oper} {t:List (Nat×Bool)} {a:Act} {w:World} {v:Value} (e:F[i]? =some o) (c:o.guard=none) (d:late.contains i=false) (f:∀w',O w'->(execOp a.eval o).run P w'= .ok (.value v) w')
  (h:∀K:Act->Prop,(∀a,wpPlanU P md F Q O N late n L t a w->K a)->K (a.put o.dst v)):wpPlanU P md F Q O N late n L ((i,false)::t) a w:=
 ⟨o,v,e, .inl ⟨by simp[Region.wanted,c],λw' b=>f w' (b.2 d)⟩,h _ λ_ h=>h⟩
theorem ic {n:Nat} {L:Act->World->Prop} {i:Nat} {o:Oper} {t:List (Nat×Bool)} {a:Act} {w:World} {v:Value} (d:F[i]? =some o) (c:o.guard=none) (e:∀w',N w'->(execOp a.eval o).run P w'= .ok (.value v) w')
  (h:∀K:Act->Prop,(∀a,wpPlanU P md F Q O N late n L t a w->K a)->K (a.put o.dst v)):wpPlanU P md F Q O N late n L ((i,false)::t) a w:=
 ⟨o,v,d, .inl ⟨by simp[Region.wanted,c],λw' b=>e w' b.1⟩,h _ λ_ h=>h⟩
theorem gG {n:Nat} {L:Act->World->Prop} {i:Nat} {o:Oper} {t:List (Nat×Bool)} {a:Act} {w:World} (e:F[i]? =some o)
  (h:∀K:Act->World->Prop,Shut (∀a w,O w->N w->wpPlanU P md F Q O N late n L t a w->K a w)->if Region.wanted o (yielded F a.tmps)=true then Oper.wp P o a w K Q else K (a.put o.dst undef) w):wpPlanU P md F Q O N late n L ((i,true)::t) a w:=
 wpOp_step e (λK c=>h K (λa w h1 b d=>c a w ⟨⟨b,λ_=>h1⟩,d⟩))
theorem qX {n:Nat} {L:Act->World->Prop} {i:Nat} {o:Oper} {t:List (Nat×Bool)} {a:Act} {w:World} (f:F[i]? =some o) (g:Db md F n late i=false)
  (h:∀K:Act->World->Prop,Shut (∀a w,N w->wpPlanU P md F Q O N late n L t a w->K a w)->if Region.wanted o (yielded F a.tmps)=true then Oper.wp P o a w K Q else K (a.put o.dst undef) w):wpPlanU P md F Q O N late n L ((i,true)::t) a w:=
 wpOp_step f (λK c=>h K (λa w b d=>c a w ⟨⟨b,λe=>by rw[g]at e;cases e⟩,d⟩))
end
end Go.Proofs.YtipljcmmokaokaaGreat
namespace Go.Proofs.YtipljcmmokaokaaGreat
open Go.RowKit Go.Lib
set_option maxRecDepth 100000
abbrev kE (h0 h1 a0 a1:Value):Value:= .agg #[h0,h1,a0,a1]
theorem sQ (w:World) (a b c:Obj):(((w.alloc a).alloc b).alloc c).heap[w.heap.size+1+1]? =some c:=by
 have:=heap_alloc_new ((w.alloc a).alloc b) c
 simpa using this
theorem pJ {w:World} {base n size:Nat} {e:TypeId} {v:Value} {xs:List Value} (h:w.ownsRow base e size v n xs):∃A m c,v= .slice A m c:=by
 rcases h.2 with⟨rfl,_⟩|⟨g',cap,cur,rfl,_⟩
 ·exact⟨_,_,_,rfl⟩
 ·exact⟨_,_,_,rfl⟩
theorem di {w:World} {g:Nat} {t:TypeId} {cs:Array Value} (h:w.heap[g]? =some (.cells cs t (0,0))) (i:Nat) (u:Value):(w.setCell ⟨g,i,none⟩ u).heap[g]? =some (.cells (cs.setIfInBounds i u) t (0,0)):=by
 simp[World.setCell,Array.getElem?_modify,h]
theorem qY {w:World} {g g' i:Nat} {u:Value} {o:Obj} (h:w.heap[g]? =some o) (a:g'≠g):(w.setCell ⟨g',i,none⟩ u).heap[g]? =some o:=by
 simp[World.setCell,Array.getElem?_modify,h,a]
theorem Af {w w':World} {base B n size:Nat} {e:TypeId} {v:Value} {xs:List Value} (h:w.ownsRow base e size v n xs) (c:B<=base) (d:∀k,base<=k->w'.heap[k]? =w.heap[k]?):w'.ownsRow B e size v n xs:=by
 refine⟨h.1, ?_⟩;rcases h.2 with h|⟨g,cap,cur,rfl,h1,a,b⟩
 ·exact .inl h
 ·exact .inr ⟨g,cap,cur,rfl,aw c h1,(d g h1).trans a,b⟩
section
variable {w5 : World} {g g' i : Nat} {x y0 y1 y2 y3 : Value}
theorem wo (j:Nat) (h:j≠g) (a:j≠g'):(((((w5.setCell ⟨g,i,none⟩ x).setCell ⟨g',0,none⟩ y0).setCell ⟨g',1,none⟩ y1).setCell ⟨g',2,none⟩ y2).setCell ⟨g',3,none⟩ y3).heap[j]? =w5.heap[j]? :=by
 rw[Below.heap_setCell _ _ _ _ (by exact a),Below.heap_setCell _ _ _ _ (by exact a),Below.heap_setCell _ _ _ _ (by exact a),Below.heap_setCell _ _ _ _ (by exact a),Below.heap_setCell _ _ _ _ (by exact h)]
theorem pK {w:World} (h:Below w.heap.size w w5):Below w.heap.size w (((((w5.setCell ⟨w.heap.size,i,none⟩ x).setCell ⟨w.heap.size+1+1,0,none⟩ y0).setCell ⟨w.heap.size+1+1,1,none⟩ y1).setCell ⟨w.heap.size+1+1,2,none⟩ y2).setCell ⟨w.heap.size+1+1,3,none⟩ y3):=
 ((((h.setCell (p:=⟨w.heap.size,i,none⟩) (aq _) x).setCell (p:=⟨w.heap.size+1+1,0,none⟩) (by show _<=w.heap.size+1+1;omega) y0).setCell (p:=⟨w.heap.size+1+1,1,none⟩) (by show _<=w.heap.size+1+1;omega) y1).setCell (p:=⟨w.heap.size+1+1,2,none⟩) (by show _<=w.heap.size+1+1;omega) y2).setCell (p:=⟨w.heap.size+1+1,3,none⟩) (by show _<=w.heap.size+1+1;omega) y3
end
def dF (w0:World) (I X R:Array Value) (w:World):Prop:=
 Below w0.heap.size w0 w/\w.heap[w0.heap.size]? =some (.cells I 80 (0,0))/\w.heap[w0.heap.size+1]? =some (.cells X 139 (0,0))/\w.heap[w0.heap.size+1+1]? =some (.cells R 80 (0,0))
theorem qZ (w:World) (I X R:Array Value):dF w I X R (((w.alloc (.cells I 80)).alloc (.cells X 139)).alloc (.cells R 80)):=by
 refine⟨(((ak _ w).alloc (aq _) _).alloc (by simp) _).alloc (by simp;omega) _, ?_, ?_,sQ _ _ _ _⟩
 ·rw[Below.heap_alloc _ _ _ (by simp;omega),Below.heap_alloc _ _ _ (by simp)];exact heap_alloc_new _ _
 ·rw[Below.heap_alloc _ _ _ (by simp)];have:=heap_alloc_new (w.alloc (.cells I 80)) (.cells X 139)
  simpa using this
section
variable {w0 w w' : World} {I X R : Array Value}
theorem dF.lt (h:dF w0 I X R w):w0.heap.size+1+1<w.heap.size:=(ai h.2.2.2).1
theorem dF.drew (h:dF w0 I X R w):dF w0 I X R w.drew:=⟨h.1.drew,h.2⟩
theorem dF.alloc (h:dF w0 I X R w) (o:Obj):dF w0 I X R (w.alloc o):=by
 have:=h.lt;exact⟨h.1.alloc h.1.size o,(Below.heap_alloc _ _ _ (by omega)).trans h.2.1,(Below.heap_alloc _ _ _ (by omega)).trans h.2.2.1,(Below.heap_alloc _ _ _ (by omega)).trans h.2.2.2⟩
theorem dF.below (h:dF w0 I X R w) (a:Below w.heap.size w w'):dF w0 I X R w':=by
 have:=h.lt;exact⟨⟨a.os.trans h.1.os,a.tape.trans h.1.tape,a.output.trans h.1.output,aw h.1.size a.size,λk b=>(a.block k (by omega)).trans (h.1.block k b)⟩,(a.block _ (by omega)).trans h.2.1,(a.block _ (by omega)).trans h.2.2.1,(a.block _ (by omega)).trans h.2.2.2⟩
theorem dF.seen (h:dF w0 I X R w):Below w0.heap.size w0 w/\w0.heap.size+1+1<w.heap.size/\(∀j,w.cell? ⟨w0.heap.size,j,none⟩=I[j]?)/\(∀j,w.frozen? ⟨w0.heap.size,j,none⟩=false)/\(∀j,w.cell? ⟨w0.heap.size+1,j,none⟩=X[j]?)/\(∀j,w.cell? ⟨w0.heap.size+1+1,j,none⟩=R[j]?)/\∀j,w.frozen? ⟨w0.heap.size+1+1,j,none⟩=false:=
 ⟨h.1,h.lt,aj _ _ h.2.1,λj=>by simp[World.frozen?,h.2.1],aj _ _ h.2.2.1,aj _ _ h.2.2.2,λj=>by simp[World.frozen?,h.2.2.2]⟩
end
theorem tS (a b h c i:Option Addr) (f n1 n2 g j d c1 c2 c3 c4:Nat) (many:Int) (w:World):
  Calls Tryz.prog 79 #[kE (.slice a f d) (.slice b n1 c1) (.slice h n2 c2) (.slice c g c3), .agg #[.int .u8 1, .int .i64 0, .slice i j c4], .int .i64 many] w λe w'=>e= .returned (kE (.slice a f d) (.slice b n1 c1) (.slice none 0 0) (.slice c g c3))/\Below w.heap.size w w':=by
 go_enter Tryz.func79,Tryz.ntmps79;go_wp2_with fail;refine bodyPost_ret (results_cell_row rfl _ _ (w.heap.size+1+1) _ _ _ _ rfl (sQ _ _ _ _) Tryz.underlying80 rfl (by kernel_rfl)) rfl ?_;exact⟨rfl,(((ak _ w).alloc (aq _) _).alloc (by simp) _).alloc (by simp;omega) _⟩
theorem tT (a b c g h:Option Addr) (f n1 n2 i j d c1 c2 c3 c4:Nat) (many:Int) (w:World):
  Calls Tryz.prog 79 #[kE (.slice a f d) (.slice b n1 c1) (.slice c n2 c2) (.slice g i c3), .agg #[.int .u8 1, .int .i64 1, .slice h j c4], .int .i64 many] w λe w'=>e= .returned (kE (.slice a f d) (.slice b n1 c1) (.slice c n2 c2) (.slice none 0 0))/\Below w.heap.size w w':=by
 go_enter Tryz.func79,Tryz.ntmps79;go_wp2_with fail;refine bodyPost_ret (results_cell_row rfl _ _ (w.heap.size+1+1) _ _ _ _ rfl (sQ _ _ _ _) Tryz.underlying80 rfl (by kernel_rfl)) rfl ?_;exact⟨rfl,(((ak _ w).alloc (aq _) _).alloc (by simp) _).alloc (by simp;omega) _⟩
theorem Gf (l m n p:Option Addr) (r n1 n2 s g q c1 c2 c3 c4 b o:Nat) (many:Nat) (w:World) (E F:Nat->Prop) (A B:List UInt8) (G:By w E n n2 A) (H:By w F (some ⟨b,o,none⟩) g B) (Y:many<=g) (hc:g<=c4) (a3:n2<=40000000) (a4:g<=40000000):
  Calls Tryz.prog 79 #[kE (.slice l r q) (.slice m n1 c1) (.slice n n2 c2) (.slice p s c3), .agg #[.int .u8 0, .int .i64 0, .slice (some ⟨b,o,none⟩) g c4], .int .i64 many] w λe w'=>∃D n' c',e= .returned (kE (.slice l r q) (.slice m n1 c1) (.slice D n' c') (.slice p s c3))/\w'.ownsRow w.heap.size 5 1 (.slice D n' c') (n2+many) (dK (A++B.take many))/\Below w.heap.size w w':=by
 have N:=ae G;have O:=ae (H.take Y);have a0:(many:Int)<=(g:Int):=by omega
 have a1:(many:Int)<=(c4:Int):=by omega
 have a2:many<=40000000:=by omega
 clear G H;go_enter Tryz.func79,Tryz.ntmps79;go_upto_region 5 with fail;have hst:=qZ w #[.slice l r q, .slice m n1 c1, .slice n n2 c2, .slice p s c3] #[.int .u8 0, .int .i64 0, .slice (some ⟨b,o,none⟩) g c4] #[.slice none 0 0, .slice none 0 0, .slice none 0 0, .slice none 0 0];generalize((w.alloc (.cells #[.slice l r q, .slice m n1 c1, .slice n n2 c2, .slice p s c3] 80)).alloc (.cells #[.int .u8 0, .int .i64 0, .slice (some ⟨b,o,none⟩) g c4] 139)).alloc (.cells #[.slice none 0 0, .slice none 0 0, .slice none 0 0, .slice none 0 0] 80)=W at hst|-;have f:=ae hst;clear hst;refine bh 14 [(0,false),(1,false),(2,false),(3,false),(4,false),(5,false),(6,false),(7,false),(8,false),(9,false),(10,false),(13,false),(11,true),(12,true)] (λw'=>dF w #[.slice l r q, .slice m n1 c1, .slice n n2 c2, .slice p s c3] #[.int .u8 0, .int .i64 0, .slice (some ⟨b,o,none⟩) g c4] #[.slice none 0 0, .slice none 0 0, .slice none 0 0, .slice none 0 0] w') (by kernel_rfl) (by kernel_rfl) (λc a d v w h=>by cases d<;>exact h) f.o.drew ?_;repeat
  refine bS (v:= ?_) (by rfl) (by rfl) (λw' I=> ?_) (λK k=> ?_);rotate_left
  ·obtain⟨_,_,Q,U,T,S,V⟩:=I.seen;clear I;go_simp;try with_reducible rfl
  go_simp;refine k _ ?_;clear k K
 refine bG (by rfl) (λK k=> ?_);go_simp;refine k.out _ _ (f.o.drew.alloc _) ?_;clear k K;refine bG (by rfl) (λK k=> ?_);go_simp;refine(jx W.drew.heap.size n (some ⟨b,o,none⟩) n2 many c2 c4 A (B.take many) _ E F (by simp) (World.cell?_alloc_new _ _ _ _) (World.cell?_alloc_new _ _ _ _) (N.o.step (Step.aC (f.o.1.drew.alloc f.o.1.size _))) (O.o.step (Step.aC (f.o.1.drew.alloc f.o.1.size _))) (by omega) (by omega)).mono ?_;rintro e w5 ⟨v5,rfl,z,L⟩;obtain⟨x,C,y,rfl⟩:=pJ z;have t:=ae ((f.o.drew.alloc _).below L);have P:=ae z;clear z L;refine k.out _ _ t.o ?_;clear k K;obtain⟨_,a5,Q,U,T,S,V⟩:=t.o.seen;show wpList _ _ _ _ _ _;go_wp2_with fail;have Z:=di (di (di (di (qY (i:=2) (u:= .slice x C y) t.o.2.2.2 (show w.heap.size≠w.heap.size+1+1 by omega)) 0 (.slice l r q)) 1 (.slice m n1 c1)) 2 (.slice x C y)) 3 (.slice p s c3);refine bodyPost_ret (results_cell_row rfl _ _ (w.heap.size+1+1) _ _ _ _ rfl Z Tryz.underlying80 rfl (by kernel_rfl)) rfl ?_;exact⟨x,C,y,rfl,Af P.o (by have:=f.o.lt;simp;omega) (λj M=>wo j (by have:=f.o.lt;simp at M;omega) (by have:=f.o.lt;simp at M;omega)),pK t.o.1⟩
theorem Gh (m n p q:Option Addr) (s n1 n2 l g r c1 c2 c3 c4 b o:Nat) (many:Nat) (w:World) (E F:Nat->Prop) (A B:List UInt8) (G:By w E q l A) (H:By w F (some ⟨b,o,none⟩) g B) (Y:many<=g) (hc:g<=c4) (a3:l<=40000000) (a4:g<=40000000):
  Calls Tryz.prog 79 #[kE (.slice m s r) (.slice n n1 c1) (.slice p n2 c2) (.slice q l c3), .agg #[.int .u8 0, .int .i64 1, .slice (some ⟨b,o,none⟩) g c4], .int .i64 many] w λe w'=>∃D n' c',e= .returned (kE (.slice m s r) (.slice n n1 c1) (.slice p n2 c2) (.slice D n' c'))/\w'.ownsRow w.heap.size 5 1 (.slice D n' c') (l+many) (dK (A++B.take many))/\Below w.heap.size w w':=by
 have N:=ae G;have O:=ae (H.take Y);have a0:(many:Int)<=(g:Int):=by omega
 have a1:(many:Int)<=(c4:Int):=by omega
 have a2:many<=40000000:=by omega
 clear G H;go_enter Tryz.func79,Tryz.ntmps79;go_upto_region 5 with fail;have hst:=qZ w #[.slice m s r, .slice n n1 c1, .slice p n2 c2, .slice q l c3] #[.int .u8 0, .int .i64 1, .slice (some ⟨b,o,none⟩) g c4] #[.slice none 0 0, .slice none 0 0, .slice none 0 0, .slice none 0 0];generalize((w.alloc (.cells #[.slice m s r, .slice n n1 c1, .slice p n2 c2, .slice q l c3] 80)).alloc (.cells #[.int .u8 0, .int .i64 1, .slice (some ⟨b,o,none⟩) g c4] 139)).alloc (.cells #[.slice none 0 0, .slice none 0 0, .slice none 0 0, .slice none 0 0] 80)=W at hst|-;have f:=ae hst;clear hst;refine bh 14 [(0,false),(1,false),(2,false),(3,false),(4,false),(5,false),(6,false),(7,false),(8,false),(9,false),(10,false),(13,false),(11,true),(12,true)] (λw'=>dF w #[.slice m s r, .slice n n1 c1, .slice p n2 c2, .slice q l c3] #[.int .u8 0, .int .i64 1, .slice (some ⟨b,o,none⟩) g c4] #[.slice none 0 0, .slice none 0 0, .slice none 0 0, .slice none 0 0] w') (by kernel_rfl) (by kernel_rfl) (λc a d v w h=>by cases d<;>exact h) f.o.drew ?_;repeat
  refine bS (v:= ?_) (by rfl) (by rfl) (λw' I=> ?_) (λK k=> ?_);rotate_left
  ·obtain⟨_,_,Q,U,T,S,V⟩:=I.seen;clear I;go_simp;try with_reducible rfl
  go_simp;refine k _ ?_;clear k K
 refine bG (by rfl) (λK k=> ?_);go_simp;refine k.out _ _ (f.o.drew.alloc _) ?_;clear k K;refine bG (by rfl) (λK k=> ?_);go_simp;refine(jx W.drew.heap.size q (some ⟨b,o,none⟩) l many c3 c4 A (B.take many) _ E F (by simp) (World.cell?_alloc_new _ _ _ _) (World.cell?_alloc_new _ _ _ _) (N.o.step (Step.aC (f.o.1.drew.alloc f.o.1.size _))) (O.o.step (Step.aC (f.o.1.drew.alloc f.o.1.size _))) (by omega) (by omega)).mono ?_;rintro e w5 ⟨v5,rfl,z,L⟩;obtain⟨x,C,y,rfl⟩:=pJ z;have t:=ae ((f.o.drew.alloc _).below L);have P:=ae z;clear z L;refine k.out _ _ t.o ?_;clear k K;obtain⟨_,a5,Q,U,T,S,V⟩:=t.o.seen;show wpList _ _ _ _ _ _;go_wp2_with fail;have Z:=di (di (di (di (qY (i:=3) (u:= .slice x C y) t.o.2.2.2 (show w.heap.size≠w.heap.size+1+1 by omega)) 0 (.slice m s r)) 1 (.slice n n1 c1)) 2 (.slice p n2 c2)) 3 (.slice x C y);refine bodyPost_ret (results_cell_row rfl _ _ (w.heap.size+1+1) _ _ _ _ rfl Z Tryz.underlying80 rfl (by kernel_rfl)) rfl ?_;exact⟨x,C,y,rfl,Af P.o (by have:=f.o.lt;simp;omega) (λj M=>wo j (by have:=f.o.lt;simp at M;omega) (by have:=f.o.lt;simp at M;omega)),pK t.o.1⟩
theorem OT:(∀(p q r s:Option Addr) (g n1 n2 y l n c1 c2 c3 c4 b o:Nat) (many:Nat) (w:World) (C D:Nat->Prop) (x z:List UInt8) (A:By w C p g x) (L:g<=n) (E:By w D (some ⟨b,o,none⟩) l z) (O:many<=l) (Q:l<=c4) (S:g<=40000000) (T:l<=40000000),Calls Tryz.prog 79 #[kE (.slice p g n) (.slice q n1 c1) (.slice r n2 c2) (.slice s y c3), .agg #[.int .u8 2, .int .i64 0, .slice (some ⟨b,o,none⟩) l c4], .int .i64 many] w λe w'=>∃F n' c',e= .returned (kE (.slice F n' c') (.slice q n1 c1) (.slice r n2 c2) (.slice s y c3))/\w'.ownsRow w.heap.size 5 1 (.slice F n' c') (z.take many++x.drop many).length (dK (z.take many++x.drop many))/\Below w.heap.size w w')/\(∀(p q r s:Option Addr) (g n1 n2 y l n c1 c2 c3 c4 b o:Nat) (many:Nat) (w:World) (C D:Nat->Prop) (x z:List UInt8) (A:By w C q n1 x) (L:n1<=c1) (E:By w D (some ⟨b,o,none⟩) l z) (O:many<=l) (Q:l<=c4) (S:n1<=40000000) (T:l<=40000000),Calls Tryz.prog 79 #[kE (.slice p g n) (.slice q n1 c1) (.slice r n2 c2) (.slice s y c3), .agg #[.int .u8 2, .int .i64 1, .slice (some ⟨b,o,none⟩) l c4], .int .i64 many] w λe w'=>∃F n' c',e= .returned (kE (.slice p g n) (.slice F n' c') (.slice r n2 c2) (.slice s y c3))/\w'.ownsRow w.heap.size 5 1 (.slice F n' c') (z.take many++x.drop many).length (dK (z.take many++x.drop many))/\Below w.heap.size w w'):=by
 refine⟨?z0, ?z1⟩
 case' z0=>intro p q r s g n1 n2 y l n c1 c2 c3 c4 b o many w C D x z A L E O Q S T
 case' z1=>(intro p q r s g n1 n2 y l n c1 c2 c3 c4 b o many w C D x z A L E O Q S T;have m:=trivial)
 all_goals
  first
   |have m:=m
    obtain⟨f,N⟩:∃f:Nat,f=min many n1:=⟨_,rfl⟩
    skip
   |obtain⟨f,N⟩:∃f:Nat,f=min many g:=⟨_,rfl⟩
  have a1:x.drop many=x.drop f:=by
   first
    |have m:=m
     rcases Nat.le_total many n1 with h|h
     skip
    |rcases Nat.le_total many g with h|h
   ·rw[N,Nat.min_eq_left h]
   ·rw[N,Nat.min_eq_right h,List.drop_of_length_le (by rw[A.1];exact h),List.drop_of_length_le (by rw[A.1];omega)]
  first
   |have m:=m
    have P:=ae (A.drop (k:=f) (cap:=c1) (by omega) L)
    skip
   |have P:=ae (A.drop (k:=f) (cap:=n) (by omega) L)
  have V:=ae (E.take O);first
   |have m:=m
    have Y:=ae (show min many z.length+(x.length - f)=many+(n1 - f) by rw[A.1,E.1];omega)
    skip
   |have Y:=ae (show min many z.length+(x.length - f)=many+(g - f) by rw[A.1,E.1];omega)
  rw[a1];have b2:(many:Int)<=(l:Int):=(by omega);have b3:(many:Int)<=(c4:Int):=(by omega);have b4:many<=40000000:=(by omega);first
   |have m:=m
    have b1:(if n1<many then(n1:Int)else(many:Int))=(f:Int):=(by split<;>omega);have a9:(f:Int)<=(n1:Int):=(by omega);have b0:f<=n1:=by omega
    skip
   |have b1:(if g<many then(g:Int)else(many:Int))=(f:Int):=by split<;>omega
    have a9:(f:Int)<=(g:Int):=(by omega);have b0:f<=g:=by omega
  clear A E N a1;go_enter Tryz.func79,Tryz.ntmps79;go_upto_region 3 with fail;first
   |have m:=m
    have hst:=qZ w #[.slice p g n, .slice q n1 c1, .slice r n2 c2, .slice s y c3] #[.int .u8 2, .int .i64 1, .slice (some ⟨b,o,none⟩) l c4] #[.slice none 0 0, .slice none 0 0, .slice none 0 0, .slice none 0 0];generalize((w.alloc (.cells #[.slice p g n, .slice q n1 c1, .slice r n2 c2, .slice s y c3] 80)).alloc (.cells #[.int .u8 2, .int .i64 1, .slice (some ⟨b,o,none⟩) l c4] 139)).alloc (.cells #[.slice none 0 0, .slice none 0 0, .slice none 0 0, .slice none 0 0] 80)=W at hst|-
   |have hst:=qZ w #[.slice p g n, .slice q n1 c1, .slice r n2 c2, .slice s y c3] #[.int .u8 2, .int .i64 0, .slice (some ⟨b,o,none⟩) l c4] #[.slice none 0 0, .slice none 0 0, .slice none 0 0, .slice none 0 0]
    generalize((w.alloc (.cells #[.slice p g n, .slice q n1 c1, .slice r n2 c2, .slice s y c3] 80)).alloc (.cells #[.int .u8 2, .int .i64 0, .slice (some ⟨b,o,none⟩) l c4] 139)).alloc (.cells #[.slice none 0 0, .slice none 0 0, .slice none 0 0, .slice none 0 0] 80)=W at hst|-
  have t:=ae hst;clear hst;first
   |have m:=m
    refine bh 15 [(0,false),(1,false),(2,false),(3,false),(4,false),(5,false),(6,false),(7,false),(8,false),(9,false),(10,false),(11,false),(14,false),(12,true),(13,true)] (λw'=>dF w #[.slice p g n, .slice q n1 c1, .slice r n2 c2, .slice s y c3] #[.int .u8 2, .int .i64 1, .slice (some ⟨b,o,none⟩) l c4] #[.slice none 0 0, .slice none 0 0, .slice none 0 0, .slice none 0 0] w') (by kernel_rfl) (by kernel_rfl) (λc a d v w h=>by cases d<;>exact h) t.o.drew ?_
   |refine bh 15 [(0,false),(1,false),(2,false),(3,false),(4,false),(5,false),(6,false),(7,false),(8,false),(9,false),(10,false),(11,false),(14,false),(12,true),(13,true)] (λw'=>dF w #[.slice p g n, .slice q n1 c1, .slice r n2 c2, .slice s y c3] #[.int .u8 2, .int .i64 0, .slice (some ⟨b,o,none⟩) l c4] #[.slice none 0 0, .slice none 0 0, .slice none 0 0, .slice none 0 0] w') (by kernel_rfl) (by kernel_rfl) (λc a d v w h=>by cases d<;>exact h) t.o.drew ?_
  repeat
   refine bS (v:= ?_) (by rfl) (by rfl) (λw' Z=> ?_) (λK B=> ?_);rotate_left
   ·obtain⟨_,_,a4,a7,a6,a5,a8⟩:=Z.seen;clear Z;go_simp;try with_reducible rfl
   go_simp;refine B _ ?_;clear B K
  refine bG (by rfl) (λK B=> ?_);go_simp;refine B.out _ _ (t.o.drew.alloc _) ?_;clear B K;refine bG (by rfl) (λK B=> ?_);go_simp;first
   |have m:=m
    refine(jx W.drew.heap.size (some ⟨b,o,none⟩) (if c1=f then q else q.map (·.add f)) many (n1 - f) c4 (c1 - f) (z.take many) (x.drop f) _ D C (by simp) (World.cell?_alloc_new _ _ _ _) (World.cell?_alloc_new _ _ _ _) (V.o.step (Step.aC (t.o.1.drew.alloc t.o.1.size _))) (P.o.step (Step.aC (t.o.1.drew.alloc t.o.1.size _))) (by omega) (by omega)).mono ?_
   |refine(jx W.drew.heap.size (some ⟨b,o,none⟩) (if n=f then p else p.map (·.add f)) many (g - f) c4 (n - f) (z.take many) (x.drop f) _ D C (by simp) (World.cell?_alloc_new _ _ _ _) (World.cell?_alloc_new _ _ _ _) (V.o.step (Step.aC (t.o.1.drew.alloc t.o.1.size _))) (P.o.step (Step.aC (t.o.1.drew.alloc t.o.1.size _))) (by omega) (by omega)).mono ?_
  rintro e w5 ⟨v5,rfl,U,a0⟩;obtain⟨G,M,I,rfl⟩:=pJ U;have H:=ae ((t.o.drew.alloc _).below a0);have a3:=ae U;clear U a0;refine B.out _ _ H.o ?_;clear B K;obtain⟨_,b5,a4,a7,a6,a5,a8⟩:=H.o.seen;show wpList _ _ _ _ _ _;go_wp2_with fail
  all_goals
   first
    |have m:=m
     have a2:=di (di (di (di (qY (i:=1) (u:= .slice G M I) H.o.2.2.2 (show w.heap.size≠w.heap.size+1+1 by omega)) 0 (.slice p g n)) 1 (.slice G M I)) 2 (.slice r n2 c2)) 3 (.slice s y c3)
     skip
    |have a2:=di (di (di (di (qY (i:=0) (u:= .slice G M I) H.o.2.2.2 (show w.heap.size≠w.heap.size+1+1 by omega)) 0 (.slice G M I)) 1 (.slice q n1 c1)) 2 (.slice r n2 c2)) 3 (.slice s y c3)
   refine bodyPost_ret (results_cell_row rfl _ _ (w.heap.size+1+1) _ _ _ _ rfl a2 Tryz.underlying80 rfl (by kernel_rfl)) rfl ?_;refine⟨G,M,I,rfl, ?_,pK H.o.1⟩;rw[Y.o];exact Af a3.o (by have:=t.o.lt;simp;omega) (λj hj=>wo j (by have:=t.o.lt;simp at hj;omega) (by have:=t.o.lt;simp at hj;omega))
abbrev wu:= @OT.1
abbrev wy:= @OT.2
theorem run_slice_all {A:Option Addr} {n c:Nat} (i j:Nat) (y:i<=j) (z:j<=n) (x:n<=c) (d a:Option Value)
  (t:d=some (.int .i64 i)\/(d=none/\i=0)) (r:a=some (.int .i64 j)\/(a=none/\j=n)):
  ∃f,(∀w,(Instr.sliceAt 40 (.slice A n c) d a none).run Tryz.prog w= .ok (.slice f (j - i) (c - i)) w)/\Part A n i j f/\(A=none->f=none):=by
 have m:∀w,(Instr.sliceBounds true n c d a none).run Tryz.prog w= .ok (i,j,c) w:=by
  intro w;have e1:(0:Int)<=(i:Int):=(by omega);have e2:(i:Int)<=(j:Int):=(by omega);have e3:(j:Int)<=(c:Int):=(by omega);have e0:(0:Int)<=(j:Int):=(by omega);rcases t with rfl|⟨rfl,rfl⟩<;>rcases r with rfl|⟨rfl,rfl⟩
  ·simp[Instr.sliceBounds,run_sliceBound _ _ _ _ _ e1 e2,run_sliceBound _ _ _ _ _ e0 e3]
  ·simp[Instr.sliceBounds,run_sliceBound _ _ _ _ _ e1 e2]
  ·simp[Instr.sliceBounds,run_sliceBound _ _ _ _ _ e0 e3]
  ·simp[Instr.sliceBounds]
 have v:∀w,(sizeOf (Tryz.prog.elem 40)).run Tryz.prog w= .ok 1 w:=λw=>by kernel_rfl
 have u:∀w,(Instr.sliceAt 40 (.slice A n c) d a none).run Tryz.prog w= .ok (sliced A i j c 1) w:=by
  intro w;rw[run_sliceAt_slice _ _ _ _ _ _ Tryz.underlying40,run_slice_any _ _ _ _ _ Tryz.underlying40,m];simp[Result.andThen,v]
 refine⟨_,u, ?_⟩;rw[Nat.mul_one];refine⟨⟨λw M l h=> ?_,λb o e=>by subst e;split<;>simp[fB]⟩,λe=>by subst e;split<;>rfl⟩;refine⟨by rw[List.length_drop,List.length_take,h.1];omega,λB=> ?_⟩;obtain⟨b,o,rfl,p,g,q⟩:=h.2 (by omega);rw[if_neg (by omega)];refine⟨b,o+i,by simp[fB],p,g,λk s=> ?_⟩;rw[List.length_drop,List.length_take,h.1]at s;rw[Nat.add_assoc,q (i+k) (by rw[h.1];omega)];simp
theorem yU (A:Option Addr) (n c:Nat) (w:World) (b:n<=c) (h:A=none->n=0/\c=0):
  Calls Tryz.prog 83 #[.slice A n c] w λe w'=>e= .returned (.slice A n n)/\w=w':=by
 cases A with
 |some a=>exact yM a n c w b
 |none=>obtain⟨rfl,rfl⟩:=h rfl;exact yN w
theorem OU {w:World} {M:Nat->Prop} {B:Option Addr} {l:List UInt8} (h:bT w M (.slice B l.length l.length) l) (j:Nat) (c:j<=l.length):
  ∃a,(∀w,(Instr.sliceAt 40 (.slice B l.length l.length) none (some (.int .i64 j)) none).run Tryz.prog w= .ok (.slice a j l.length) w)/\bT w M (.slice a j j) (l.take j)/\∀w',Calls Tryz.prog 83 #[.slice a j l.length] w' λe s=>e= .returned (.slice a j j)/\w'=s:=by
 obtain⟨a,h1,f,k⟩:=run_slice_all (A:=B) 0 j (Nat.zero_le _) c (aq _) none _ (.inr ⟨rfl,rfl⟩) (.inl rfl);rcases h with⟨e,h0⟩|⟨b,o,e,t,r,n,p⟩
 ·injection e with e1 e2 e3;subst e1 h0;have q:j=0:=(by simpa using c);subst q;have m:=k rfl;subst m;exact⟨none,h1, .inl ⟨rfl,rfl⟩,λw'=>yU none 0 _ w' c (λ_=>⟨rfl,rfl⟩)⟩
 ·injection e with e1 e2 e3;subst e1;obtain⟨o',i⟩:=f.2 b o rfl;have g:=f.o w M l p;subst i;have d:(l.take j).length=j:=(by rw[List.length_take];omega);rw[Nat.sub_zero,List.drop_zero]at g;refine⟨_,h1, .inr ⟨b,o',by rw[d],by rw[d];omega,r,n,by rw[d];exact g⟩,λw'=>yU _ j _ w' c (λe=>by cases e)⟩
end Go.Proofs.YtipljcmmokaokaaGreat
namespace Go.Proofs.YtipljcmmokaokaaGreat
open Go
inductive Pl where
 |fin
 |rd (i:Nat) (p:Pl)
 |wr (i:Nat) (p:Pl)
 |two (i:Nat) (p:Pl) (j:Nat) (q:Pl)
def Pl.len:Pl->Nat
 | .fin=>0
 | .rd _ p=>p.len+1
 | .wr _ p=>p.len+1
 | .two _ p _ _=>p.len+1
section
variable {P : Program} {F : Array Oper} {Q : Exit -> Act -> World -> Prop} {md : Region.Mode} {S : World -> Prop}
def Jq (md:Region.Mode) (F:Array Oper) (n g:Nat):Pl->Array Bool->Bool
 | .fin,listed=>Region.seqB md F g n listed
 | .rd i p,listed=>decide (i<n)&&(Region.ready md F listed).contains i&&Region.free md F listed i&&Jq md F n g p (listed.setIfInBounds i true)
 | .wr i p,listed=>decide (i<n)&&decide (Region.ready md F listed=[i])&&Jq md F n g p (listed.setIfInBounds i true)
 | .two i p j q,listed=>decide (i<n)&&decide (j<n)&&decide (Region.ready md F listed=[i,j])&&decide (p.len=q.len)&&Jq md F n g p (listed.setIfInBounds i true)&&Jq md F n g q (listed.setIfInBounds j true)
def Ah (md:Region.Mode) (F:Array Oper) (n:Nat) (dg:Pl):Bool:=
 Region.noSelect F&&decide (n<F.size)&&decide (dg.len=n)&&Region.sinkB md F n&&Region.chainB md F n&&Jq md F n (F.size - n) dg (Array.replicate F.size false)
end
section
variable {P : Program} {F : Array Oper} {Q : Exit -> Act -> World -> Prop} {md : Region.Mode} {S : World -> Prop}
theorem eW {S T:World->Prop} (d:∀w,T w->S w) {n:Nat}:∀(b:Nat) (e:Array Bool) (a:Act) (w:World),wpAnyT P md F Q T n b e a w->wpAnyT P md F Q S n b e a w
 |0,_,_,_,h=>h
 |b+1,_,_,_,h=>⟨h.1,λi g=>wpOp_mono (λf w' c=>⟨λj=>d _ (c.1 j),eW d b _ f w' c.2⟩) (h.2 i g)⟩
def wpPm (P:Program) (F:Array Oper) (Q:Exit->Act->World->Prop) (L:Act->World->Prop):Pl->(World->Prop)->Act->World->Prop
 | .fin,_,a,w=>L a w
 | .rd i p,S,a,w=>∃o v,F[i]? =some o/\YieldsIf P F S o v a/\wpPm P F Q L p S (a.put o.dst v) w
 | .wr i p,S,a,w=>wpOp P F Q i (λa' w'=>∃T:World->Prop,(∀w,T w->S w)/\T w'/\wpPm P F Q L p T a' w') a w
 | .two i p j q,S,a,w=>wpOp P F Q i (λa' w'=>∃T:World->Prop,(∀w,T w->S w)/\T w'/\wpPm P F Q L p T a' w') a w/\wpOp P F Q j (λa' w'=>∃T:World->Prop,(∀w,T w->S w)/\T w'/\wpPm P F Q L q T a' w') a w
theorem kF {n:Nat} {tl:List Oper} (z:Region.noSelect F=true) (y:Region.sinkB md F n=true) (u:Region.chainB md F n=true) (x:n<F.size) (s:∀c a d v w,Q (.panic c) (Act.put a d v) w->Q (.panic c) a w) (A:∀j,tl[j]? =F[n+j]?):
  ∀(E:Pl) (S:World->Prop) (b:Array Bool) (a:Act) (w:World),HeadInv md F n b->Jq md F n tl.length E b=true->S w->
   wpPm P F Q (λa w=>wpList P F Q tl a w) E S a w->wpAnyT P md F Q S n (E.len+tl.length) b a w
 | .fin,S,b,a,w,inv,hB,hS,h=>by
  rw[Pl.len,Nat.zero_add];exact gF tl n b a w (aq _) A hB h
 | .rd i t,S,b,a,w,inv,hB,hS,h=>by
  simp only[Jq,Bool.and_eq_true,decide_eq_true_eq]at hB;obtain⟨⟨⟨f,U⟩,M⟩,B⟩:=hB;obtain⟨o,v,H,W,g⟩:=h;have l:i∈Region.ready md F b:=(by simpa using U);rw[Pl.len,show t.len+1+tl.length=(t.len+tl.length)+1 by omega];exact qW H (Region.noSelect_spec z) (λc a w h=>s c a _ _ w h) y u x f _ b a w inv (Region.free_spec H M) l W hS
   (kF z y u x s A t S _ _ w (inv.set l f) B hS g)
 | .wr i t,S,b,a,w,inv,hB,hS,h=>by
  simp only[Jq,Bool.and_eq_true,decide_eq_true_eq]at hB;obtain⟨⟨f,I⟩,B⟩:=hB;have l:i∈Region.ready md F b:=(by rw[I];simp);rw[Pl.len,show t.len+1+tl.length=(t.len+tl.length)+1 by omega];refine⟨λh1=>(by rw[h1]at l;cases l),λj G=> ?_⟩;rw[I]at G;obtain rfl:j=i:=(by simpa using G);exact wpOp_mono (λm w' ⟨T,e,h1,r⟩=>⟨λ_=>e _ h1,eW e _ _ _ _ (kF z y u x s A t T _ m w' (inv.set l f) B h1 r)⟩) h
 | .two i p j q,S,b,a,w,inv,hB,hS,h=>by
  simp only[Jq,Bool.and_eq_true,decide_eq_true_eq]at hB;obtain⟨⟨⟨⟨⟨f,N⟩,D⟩,O⟩,K⟩,L⟩:=hB;have C:i∈Region.ready md F b:=(by rw[D];simp);have V:j∈Region.ready md F b:=(by rw[D];simp);rw[Pl.len,show p.len+1+tl.length=(p.len+tl.length)+1 by omega];refine⟨λh1=>(by rw[h1]at C;cases C),λk g=> ?_⟩;rw[D]at g;rcases au g with rfl|g
  ·exact wpOp_mono (λm w' ⟨T,e,h1,r⟩=>⟨λ_=>e _ h1,eW e _ _ _ _ (kF z y u x s A p T _ m w' (inv.set C f) K h1 r)⟩) h.1
  ·obtain rfl:k=j:=(by simpa using g);rw[O];exact wpOp_mono (λm w' ⟨T,e,h1,r⟩=>⟨λ_=>e _ h1,eW e _ _ _ _ (kF z y u x s A q T _ m w' (inv.set V N) L h1 r)⟩) h.2
theorem wp_region_pm {id:Nat} {a:Act} {w:World} {l:List Oper} (n:Nat) (b:Pl) (S:World->Prop) (k:P.follows .mixedOrders=true) (e:Ah .any l.toArray n b=true) (g:∀c a d v w,Q (.panic c) (Act.put a d v) w->Q (.panic c) a w) (i:S w.drew)
  (h:wpPm P l.toArray Q (λf w'=>wpList P l.toArray Q (l.drop n) f w') b S a w.drew):(Code.region id l.toArray true).wp P Q a w:=by
 simp only[Ah,Bool.and_eq_true,decide_eq_true_eq]at e;obtain⟨⟨⟨⟨⟨y,q⟩,u⟩,x⟩,r⟩,s⟩:=e;have B:n<l.length:=by simpa using q
 have o:(l.drop n).length=l.toArray.size - n:=by simp
 have A:HeadInv .any l.toArray n (Array.replicate l.toArray.size false):=
  ⟨by simp,λj C _ p=>(by rw[getD_replicate_false]at p;cases p),λt _ z=>getD_in (by simpa using z) (getD_replicate_false _ _)⟩
 have H:=kF (md:= .any) (tl:=l.drop n) y x r q g (λj=>by simp[List.getElem?_drop]) b S _ a w.drew A (by rw[o];exact s) i h;refine wp_region_any k ?_;have m:=lJ _ _ _ _ H;rw[o,u,show n+(l.toArray.size - n)=l.toArray.size by omega]at m;exact m
theorem aJ {id:Nat} {a:Act} {w:World} {l:List Oper} (n:Nat) (b:Pl) (S:World->Prop) (i:S w.drew) (h:wpPm P l.toArray Q (λf w'=>wpList P l.toArray Q (l.drop n) f w') b S a w.drew) (k:P.follows .mixedOrders=true:=by kernel_rfl) (e:Ah .any l.toArray n b=true:=by kernel_rfl) (g:∀c a d v w,Q (.panic c) (Act.put a d v) w->Q (.panic c) a w:=by intro c a d v w h;cases d<;>exact h):(Code.region id l.toArray true).wp P Q a w:=
 wp_region_pm n b S k e g i h
theorem wpPm_read {L:Act->World->Prop} {i:Nat} {o:Oper} {t:Pl} {a:Act} {w:World} {v:Value} (c:F[i]? =some o) (b:Region.wanted o (yielded F a.tmps)=true) (d:∀w',S w'->(execOp a.eval o).run P w'= .ok (.value v) w')
  (h:∀K:Act->Prop,(∀a,wpPm P F Q L t S a w->K a)->K (a.put o.dst v)):wpPm P F Q L (.rd i t) S a w:=
 ⟨o,v,c, .inl ⟨b,d⟩,h _ λ_ h=>h⟩
theorem aA {L:Act->World->Prop} {i:Nat} {o:Oper} {t:Pl} {a:Act} {w:World} {v:Value} (d:∀w',S w'->(execOp a.eval o).run P w'= .ok (.value v) w') (h:∀K:Act->Prop,(∀a,wpPm P F Q L t S a w->K a)->K (a.put o.dst v)) (c:F[i]? =some o:=by rfl) (b:Region.wanted o (yielded F a.tmps)=true:=by rfl):wpPm P F Q L (.rd i t) S a w:=
 wpPm_read c b d h
theorem wpPm_skip {L:Act->World->Prop} {i:Nat} {o:Oper} {t:Pl} {a:Act} {w:World} (c:F[i]? =some o) (b:Region.wanted o (yielded F a.tmps)=false)
  (h:∀K:Act->Prop,(∀a,wpPm P F Q L t S a w->K a)->K (a.put o.dst undef)):wpPm P F Q L (.rd i t) S a w:=
 ⟨o,undef,c, .inr ⟨b,rfl⟩,h _ λ_ h=>h⟩
theorem aF {L:Act->World->Prop} {i:Nat} {o:Oper} {t:Pl} {a:Act} {w:World} (h:∀K:Act->Prop,(∀a,wpPm P F Q L t S a w->K a)->K (a.put o.dst undef)) (c:F[i]? =some o:=by rfl) (b:Region.wanted o (yielded F a.tmps)=false:=by rfl):wpPm P F Q L (.rd i t) S a w:=
 wpPm_skip c b h
theorem wpPm_write {L:Act->World->Prop} {i:Nat} {o:Oper} {t:Pl} {a:Act} {w:World} (b:F[i]? =some o)
  (h:∀K:Act->World->Prop,Shut (∀(a:Act) (w:World) (T:World->Prop),(∀w,T w->S w)->T w->wpPm P F Q L t T a w->K a w)->if Region.wanted o (yielded F a.tmps)=true then Oper.wp P o a w K Q else K (a.put o.dst undef) w):wpPm P F Q L (.wr i t) S a w:=
 wpOp_step b (λK c=>h K (λa w T e d f=>c a w ⟨T,e,d,f⟩))
theorem az {L:Act->World->Prop} {i:Nat} {o:Oper} {t:Pl} {a:Act} {w:World} (h:∀K:Act->World->Prop,Shut (∀(a:Act) (w:World) (T:World->Prop),(∀w,T w->S w)->T w->wpPm P F Q L t T a w->K a w)->if Region.wanted o (yielded F a.tmps)=true then Oper.wp P o a w K Q else K (a.put o.dst undef) w) (b:F[i]? =some o:=by rfl):wpPm P F Q L (.wr i t) S a w:=
 wpPm_write b h
theorem dX {L:Act->World->Prop} {i j:Nat} {b c:Oper} {p q:Pl} {a:Act} {w:World} (k:F[i]? =some b) (l:F[j]? =some c)
  (h1:∀K:Act->World->Prop,Shut (∀(a:Act) (w:World) (T:World->Prop),(∀w,T w->S w)->T w->wpPm P F Q L p T a w->K a w)->if Region.wanted b (yielded F a.tmps)=true then Oper.wp P b a w K Q else K (a.put b.dst undef) w)
  (h:∀K:Act->World->Prop,Shut (∀(a:Act) (w:World) (T:World->Prop),(∀w,T w->S w)->T w->wpPm P F Q L q T a w->K a w)->if Region.wanted c (yielded F a.tmps)=true then Oper.wp P c a w K Q else K (a.put c.dst undef) w):wpPm P F Q L (.two i p j q) S a w:=
 ⟨wpOp_step k (λK d=>h1 K (λa w T f e g=>d a w ⟨T,f,e,g⟩)),wpOp_step l (λK d=>h K (λa w T f e g=>d a w ⟨T,f,e,g⟩))⟩
end
end Go.Proofs.YtipljcmmokaokaaGreat
namespace Go.Proofs.YtipljcmmokaokaaGreat
open Go.RowKit Go.Lib Go.Maps Go.WideMaps Go.Sort
set_option maxRecDepth 100000
def uF (w:World) (q:Nat):Prop:=(∀o (u v:UInt8),¬(w.cell? ⟨q,o,none⟩=some (u8 u)/\w.cell? ⟨q,o+1,none⟩=some (u8 v)))/\¬U8 w q
structure Ai (M:Nat->Prop) (w w':World):Prop where
 os:w'.os=w.os
 tape:w'.tape=w.tape
 output:w'.output=w.output
 size:w.heap.size<=w'.heap.size
 keep:∀k,k<w.heap.size->M k->w'.heap[k]? =w.heap[k]?
 bytes:∀k,k<w.heap.size->¬uF w k->w'.heap[k]? =w.heap[k]?
theorem Ai.bg {M:Nat->Prop} {w w':World} {row:Option Nat} (a:w.grownBy w' row) (h:∀q,row=some q->¬M q/\uF w q):Ai M w w':=
 ⟨a.os,a.tape,a.output,a.size,λk b c=>a.block k b (λe=>(h k e.symm).1 c),λk b d=>a.block k b (λe=>d (h k e.symm).2)⟩
section
variable {w w' : World} {M : Nat -> Prop} {v : Value} {l : List UInt8}
theorem By.aht {b o n:Nat} (h:By w M (some ⟨b,o,none⟩) n l) (p:U8 w b) (c:Ai M w w'):By w' M (some ⟨b,o,none⟩) n l:=
 ⟨h.1,λk=>by
  obtain⟨b',o',e,a,d,f⟩:=h.2 k;injection e with e;injection e with e1 e2 e3;subst e1 e2;have i:w'.heap[b]? =w.heap[b]? :=c.bytes b a (λm=>m.2 p);exact⟨b,o,rfl,av a c.size,d,λj g=>(World.cell?_of_block i).trans (f j g)⟩⟩
theorem By.oth {A:Option Addr} {n:Nat} (h:By w M A n l) (h1:l.length≠1) (d:Ai M w w'):By w' M A n l:=
 ⟨h.1,λk=>by
  obtain⟨b,o,e,c,f,a⟩:=h.2 k;have p:=h.1;have i:w'.heap[b]? =w.heap[b]? :=d.bytes b c (λm=>m.1 (o+0) _ _ ⟨a 0 (by omega),a 1 (by omega)⟩);exact⟨b,o,e,av c d.size,f,λj g=>(World.cell?_of_block i).trans (a j g)⟩⟩
theorem bT.oth (h:bT w M v l) (c:Ai M w w'):bT w' M v l:=by
 rcases h with h|⟨b,o,e,h1,a,f,d⟩
 ·exact .inl h
 ·exact .inr ⟨b,o,e,h1,a.same c.size (c.bytes b a.1 (λg=>g.2 a)),f,d.aht a c⟩
theorem Ai.sub {b:Nat->Prop} (a:Ai M w w') (h:∀k,b k->M k):Ai b w w':=⟨a.os,a.tape,a.output,a.size,λk c d=>a.keep k c (h k d),a.bytes⟩
theorem Sl.oth (h:Sl w M v l) (h1:l.length≠1) (a:Ai M w w'):Sl w' M v l:=by
 rcases h with h|⟨b,o,c,e,h0,d,f⟩
 ·exact .inl h
 ·exact .inr ⟨b,o,c,e,h0,av d a.size,f.oth h1 a⟩
theorem dx.oth {b:Nat} {m:List (J.B×J.B)} (h:dx w M b m) (c:Ai M w w') (o:M b):dx w' M b m:=by
 have q:=h.lt;obtain⟨D,h1,i,j,n⟩:=h;refine⟨D, ?_,i,j,λk l p=> ?_⟩
 ·obtain⟨f,e,g1,a⟩:=h1;exact⟨f,e,(c.keep b q o).trans g1,a⟩
 ·obtain⟨v,d,g1,a,g⟩:=n k l p;exact⟨v,d,g1,a,g.oth c⟩
theorem dT.oth {base:Nat} {L:List J.cd} (h:dT w M base v L) (a:Ai M w w') (c:∀k,v.ownBlock=some k->M k):dT w' M base v L:=by
 obtain⟨vs,h1,b,d⟩:=h;refine⟨vs,h1,eE b (λk e=>a.keep k (b.lt k e).2 (c k e)),λi f g=> ?_⟩;have:=d i f g;exact this.oth ⟨a.os,a.tape,a.output,a.size,λk j h=>a.keep k j (h.elim id (c k)),a.bytes⟩
theorem kC.oth {L:List J.Wr} (h:kC w M v L) (j:∀x∈L,x.bs.length≠1) (d:Ai M w w'):kC w' M v L:=by
 obtain⟨vs,h1,a,b,f⟩:=h;exact⟨vs,h1,eE a (λk e=>d.keep k (a.lt k e).2 (b k e)),b,λi c g=>(f i c g).oth (j _ (List.getElem_mem c)) d⟩
theorem fP.oth (h:fP w M v l) (b:Ai M w w'):fP w' M v l:=by
 rcases h with⟨h1,a⟩|h
 ·exact .inl ⟨eE h1 (λk e=>b.keep k (h1.lt k e).2 (a k e)),a⟩
 ·exact .inr (h.oth b)
end
structure J.Two (s:J.St):Prop where
 wr:∀x∈s.writes,x.bs.length≠1
 h0:s.disk.h0.length≠1
 h1:s.disk.h1.length≠1
theorem cA.oth {w w':World} {M:Nat->Prop} {s:J.St} {G:Nat} {V:Option Nat} {U wr Y Z b2 b3 d0 d1 d2 d3:Value} (h:cA w M s G V U wr Y Z b2 b3 d0 d1 d2 d3) (c:J.Two s) (a:Ai M w w'):cA w' M s G V U wr Y Z b2 b3 d0 d1 d2 d3:=by
 refine⟨h.now.oth a h.mbn,h.mbn, ?_,h.chs.oth a h.mch,h.mch,h.wrs.oth c.wr a,h.f0.oth a,h.f1.oth a,h.f2.oth a,h.f3.oth a,h.e0.oth c.h0 a,h.e1.oth c.h1 a,h.e2.oth a,h.e3.oth a,h.dd⟩;cases V with
 |none=>exact h.was
 |some b=>
  obtain⟨g1,e,d,f⟩:=h.was;exact⟨g1,e.oth a d,d,f⟩
theorem br.oth {w w':World} {p:Nat} {M:Nat->Prop} {s:J.St} (h:br w p M s) (e:J.Two s) (b:Ai M w w'):br w' p M s:=by
 obtain⟨G,V,U,wr,Y,Z,b2,b3,d0,d1,d2,d3,h1,a,c,d⟩:=h;exact⟨G,V,U,wr,Y,Z,b2,b3,d0,d1,d2,d3,(b.keep p (ai h1).1 a).trans h1,a,c.oth e b,d⟩
end Go.Proofs.YtipljcmmokaokaaGreat
