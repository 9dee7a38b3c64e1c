import Derived.Test.YtipljcmmokaokaaGreatQM00
import Derived.Lib.Strings
import Derived.Laws.OwnMore
import Derived.Deep.AppendLies
import Derived.Deep.Draws
import Derived.Maps.AppendAt
import Derived.RegionTactic
import Derived.OwnWalk
import Derived.Lib.AppendStr
import Derived.Outline
import Derived.Lib.LazyBuf
import Derived.Laws.BitsAllLaws
import Derived.Lib.AppendZerosOnto
import Derived.Lib.SliceRun
import Derived.Test.YtipljcmmokaokaaGreatQA
set_option linter.unusedVariables false
set_option linter.unusedSimpArgs false
set_option maxHeartbeats 1000000
namespace Go.Proofs.YtipljcmmokaokaaGreat
namespace X
abbrev B:=J.B
theorem mU:∀(a b:List B),a.Pairwise (· < ·)→b.Pairwise (· < ·)→(∀x,x∈a↔x∈b)→a=b
 |[],[],_,_,_=>rfl
 |[],y::t,_,_,h=>by have:=(h y).2 ae;cases this
 |x::t,[],_,_,h=>by have:=(h x).1 ae;cases this
 |x::s,y::t,ha,hb,h=>by
  obtain⟨ha1,ha2⟩:=List.pairwise_cons.1 ha;obtain⟨hb1,hb2⟩:=List.pairwise_cons.1 hb;have e:x=y:=by
   rcases ak ((h x).1 ae)with e|e
   ·exact e
   ·rcases ak ((h y).2 ae)with e2|e2
    ·exact e2.symm
    ·exact absurd (ha1 y e2) (List.lt_asymm (hb1 x e))
  subst e
  congr 1
  refine mU s t ha2 hb2 (fun z=>⟨fun hz=> ?_,fun hz=> ?_⟩)
  ·rcases ak ((h z).1 (af _ hz))with e|e
   ·subst e;exact absurd (ha1 z hz) (List.lt_irrefl z)
   ·exact e
  ·rcases ak ((h z).2 (af _ hz))with e|e
   ·subst e;exact absurd (hb1 z hz) (List.lt_irrefl z)
   ·exact e
theorem CP:∀(p q s t:B),p.length=q.length→(p++s<q++t↔p<q∨p=q∧s<t)
 |[],[],s,t,_=>by simp[List.lt_irrefl]
 |[],_::_,_,_,h=>by cases h
 |_::_,[],_,_,h=>by cases h
 |a::p,b::q,s,t,h=>by
  have ih:=CP p q s t (by simpa using h);rw[List.cons_append,List.cons_append,R.mS,R.mS,ih];by_cases e:a=b
  ·subst e;have:¬a<a:=(by simp);simp[this]
  ·simp[e]
def own (nm:B):B:=nm++[0,65]
def cK (nm:B):B:=nm++[0,67]
def pre (nm:B) (i:Nat):B:=if i=0 then nm++[0,80]else nm++[0,75,UInt8.ofNat i]
def tail (i:Nat) (p:B) (t:Nat):B:=if i=0 then p else p++R.bF t
def bP (nm:B) (i:Nat) (p:B) (t:Nat):B:=pre nm i++tail i p t
theorem kW (nm:B):(own nm).length=nm.length+2:=by simp[own]
theorem px (nm:B):(cK nm).length=nm.length+2:=by simp[cK]
theorem kt (nm:B) (i:Nat):(pre nm i).length≤nm.length+3:=by unfold pre;split<;>simp
theorem FX (nm:B):(pre nm 0).length=nm.length+2:=by simp[pre]
theorem FY (i:Nat) (p:B) (t:Nat):(tail i p t).length≤p.length+4:=by
 unfold tail;split
 ·omega
 ·rw[List.length_append,R.df];exact aj _
theorem b9 (nm:B) (i:Nat) (p:B) (t:Nat):(bP nm i p t).length≤nm.length+p.length+7:=by
 unfold bP;rw[List.length_append];have:=kt nm i;have:=FY i p t;omega
theorem tA (nm:B):own nm≠cK nm:=fun e=>by
 have:=List.append_cancel_left e;cases this
theorem kG (nm:B) (i:Nat):∃a x,pre nm i=nm++0::a::x∧(a=80∨a=75)∧(i=0↔a=80):=by
 unfold pre;split
 ·rename_i h;exact⟨80,[],rfl, .inl rfl,by simp[h]⟩
 ·rename_i h;exact⟨75,[UInt8.ofNat i],rfl, .inr rfl,by simp[h]⟩
theorem iZ (nm:B) (i:Nat) (p:B) (t:Nat):own nm≠bP nm i p t:=fun e=>by
 obtain⟨a,x,h,ha,_⟩:=kG nm i;unfold own bP at e;rw[h,List.append_assoc]at e;have:=List.append_cancel_left e;simp only[List.cons_append,List.cons.injEq,true_and]at this;rcases ha with rfl|rfl<;>exact absurd this.1 (by decide)
theorem ll (nm:B) (i:Nat) (p:B) (t:Nat):cK nm≠bP nm i p t:=fun e=>by
 obtain⟨a,x,h,ha,_⟩:=kG nm i;unfold cK bP at e;rw[h,List.append_assoc]at e;have:=List.append_cancel_left e;simp only[List.cons_append,List.cons.injEq,true_and]at this;rcases ha with rfl|rfl<;>exact absurd this.1 (by decide)
theorem mV {nm x y:B} {i j:Nat} (hi:i<256) (hj:j<256) (h:pre nm i++x=pre nm j++y):i=j:=by
 obtain⟨a,u,h1,h2,h3⟩:=kG nm i;obtain⟨b,v,k1,k2,k3⟩:=kG nm j;by_cases AD:i=0
 ·have ha:=h3.1 AD;rw[h1,k1,List.append_assoc,List.append_assoc]at h;have:=List.append_cancel_left h;simp only[List.cons_append,List.cons.injEq,true_and]at this;have:=k3.2 (by rw[←this.1,ha]);omega
 ·by_cases Vs:j=0
  ·have hb:=k3.1 Vs;rw[h1,k1,List.append_assoc,List.append_assoc]at h;have:=List.append_cancel_left h;simp only[List.cons_append,List.cons.injEq,true_and]at this;have:=h3.2 (by rw[this.1,hb]);omega
  ·unfold pre at h;rw[if_neg AD,if_neg Vs,List.append_assoc,List.append_assoc]at h;have:=List.append_cancel_left h;simp only[List.cons_append,List.cons.injEq,true_and]at this;have:=congrArg UInt8.toNat this.1;rw[UInt8.toNat_ofNat',UInt8.toNat_ofNat']at this;omega
theorem FZ {i:Nat} {p q:B} {t s:Nat} (ht:t<4294967296) (hs:s<4294967296) (hz:i=0→t=s) (h:tail i p t=tail i q s):p=q∧t=s:=by
 unfold tail at h;by_cases hi:i=0
 ·rw[if_pos hi,if_pos hi]at h;exact⟨h,hz hi⟩
 ·rw[if_neg hi,if_neg hi]at h;have hl:p.length=q.length:=(by have:=congrArg List.length h;simpa [R.df] using this);obtain⟨h1,h2⟩:=List.append_inj h hl;exact⟨h1,R.JY ht hs h2⟩
theorem oC {nm:B} {i j:Nat} {p q:B} {t s:Nat} (hi:i<256) (hj:j<256) (ht:t<4294967296) (hs:s<4294967296) (hz:i=0→t=0) (hz':j=0→s=0) (h:bP nm i p t=bP nm j q s):i=j∧p=q∧t=s:=by
 have e:=mV hi hj h;subst e;exact⟨rfl,FZ ht hs (fun h=>by rw[hz h,hz' h]) (List.append_cancel_left h)⟩
theorem F3 {nm:B} {i:Nat} {p q:B} {t s:Nat} (hl:p.length=q.length) (ht:t<4294967296) (hs:s<4294967296) (hz:i=0→t=s):bP nm i p t<bP nm i q s↔p<q∨p=q∧t<s:=by
 unfold bP tail;rw[R.AA];by_cases hi:i=0
 ·have:=hz hi;rw[if_pos hi,if_pos hi];constructor
  ·exact fun h=> .inl h
  ·rintro(h|⟨_,h⟩)
   ·exact h
   ·omega
 ·rw[if_neg hi,if_neg hi,CP _ _ _ _ hl,R.MV ht hs]
theorem mW (p:B) (x y:B):(p++x).isPrefixOf (p++y)=x.isPrefixOf y:=by
 induction p with
 |nil=>rfl
 |cons a p ih=>simp only[List.cons_append,List.isPrefixOf,ih,beq_self_eq_true,Bool.true_and]
theorem lV {nm:B} {i:Nat} (v:B) {k:B} (h:Lib.hasPrefix k (pre nm i++v)=true):∃x,k=pre nm i++(v++x):=by
 unfold Lib.hasPrefix at h;obtain⟨x,hx⟩:=List.isPrefixOf_iff_prefix.1 h;exact⟨x,by rw[←hx,List.append_assoc]⟩
theorem yf {i:Nat} {p v:B} {t:Nat} (hl:v.length≤p.length):v.isPrefixOf (tail i p t)=decide (p.take v.length=v):=by
 rw[Bool.eq_iff_iff,List.isPrefixOf_iff_prefix,decide_eq_true_eq,List.prefix_iff_eq_take];have e:(tail i p t).take v.length=p.take v.length:=by
  unfold tail;split
  ·rfl
  ·rw[List.take_append_of_le_length hl]
 rw[e];exact eq_comm
theorem dH {nm:B} {i:Nat} {p v:B} {t:Nat} (hl:v.length≤p.length):Lib.hasPrefix (bP nm i p t) (pre nm i++v)=decide (p.take v.length=v):=by
 unfold Lib.hasPrefix bP;rw[mW,yf hl]
theorem py (nm v:B) (i:Nat):Lib.hasPrefix (own nm) (pre nm i++v)=false:=by
 rw[Bool.eq_false_iff];intro h;obtain⟨x,hx⟩:=lV v h;obtain⟨a,y,h1,ha,_⟩:=kG nm i;unfold own at hx;rw[h1,List.append_assoc]at hx;have:=List.append_cancel_left hx;simp only[List.cons_append,List.cons.injEq,true_and]at this;rcases ha with rfl|rfl<;>exact absurd this.1 (by decide)
theorem tB (nm v:B) (i:Nat):Lib.hasPrefix (cK nm) (pre nm i++v)=false:=by
 rw[Bool.eq_false_iff];intro h;obtain⟨x,hx⟩:=lV v h;obtain⟨a,y,h1,ha,_⟩:=kG nm i;unfold cK at hx;rw[h1,List.append_assoc]at hx;have:=List.append_cancel_left hx;simp only[List.cons_append,List.cons.injEq,true_and]at this;rcases ha with rfl|rfl<;>exact absurd this.1 (by decide)
theorem iE {nm v:B} {i j:Nat} (hi:i<256) (hj:j<256) (qY:i≠j) (p:B) (t:Nat):Lib.hasPrefix (bP nm j p t) (pre nm i++v)=false:=by
 rw[Bool.eq_false_iff];intro h;obtain⟨x,hx⟩:=lV v h;exact qY (mV hj hi hx).symm
structure iM (nm a:B) (n c:Nat) (lens:Nat→Nat) (Pp:B→B→Prop) (Ee:Nat→B→Nat→B→Prop) (now:List (B×B)):Prop where
 asc:J.qR now
 own:J.look now (own nm)=some a
 tim:J.look now (cK nm)=if 0<c then some (R.bF c)else none
 pri:∀p v,J.look now (bP nm 0 p 0)=some v↔Pp p v
 alt:∀i p t q,1≤i→i<n→t<4294967296→(J.look now (bP nm i p t)=some q↔Ee i p t q)
 oth:∀k,J.look now k≠none→k=X.own nm∨k=cK nm∨(∃p,k=bP nm 0 p 0)∨∃i p t,1≤i∧i<n∧t<4294967296∧k=bP nm i p t
 len0:∀p v,Pp p v→p.length=lens 0
 lenE:∀i p t q,Ee i p t q→p.length=lens i
section
variable {nm a : B} {n c : Nat} {lens : Nat → Nat} {Pp : B → B → Prop} {Ee : Nat → B → Nat → B → Prop} {now : List (B × B)}
theorem F4 (nm a:B) (n:Nat) (lens:Nat→Nat):iM nm a n 0 lens (fun _ _=>False) (fun _ _ _ _=>False) (J.ins [] (own nm) a):=by
 refine⟨J.mN J.sK _ _,by rw[J.bW,if_pos rfl], ?_,fun p v=> ?_,fun i p t q _ _ _=> ?_,fun k hk=> ?_,fun _ _ h=>h.elim,fun _ _ _ _ h=>h.elim⟩
 ·rw[J.bW,if_neg (tA nm).symm];rfl
 ·rw[J.bW,if_neg (iZ nm 0 p 0).symm];exact⟨(fun h=>by cases h),fun h=>h.elim⟩
 ·rw[J.bW,if_neg (iZ nm i p t).symm];exact⟨(fun h=>by cases h),fun h=>h.elim⟩
 ·rw[J.bW]at hk;by_cases e:k=X.own nm
  ·exact .inl e
  ·rw[if_neg e]at hk;exact absurd rfl hk
theorem iM.time (h:iM nm a n c lens Pp Ee now) {c':Nat} (hc:0<c'):iM nm a n c' lens Pp Ee (J.ins now (cK nm) (R.bF c')):=by
 refine⟨J.mN h.asc _ _, ?_, ?_,fun p v=> ?_,fun i p t q h1 h2 h3=> ?_,fun k hk=> ?_,h.len0,h.lenE⟩
 ·rw[J.bW,if_neg (tA nm)];exact h.own
 ·rw[J.bW,if_pos rfl,if_pos hc]
 ·rw[J.bW,if_neg (ll nm 0 p 0).symm];exact h.pri p v
 ·rw[J.bW,if_neg (ll nm i p t).symm];exact h.alt i p t q h1 h2 h3
 ·rw[J.bW]at hk;by_cases e:k=cK nm
  ·exact .inr (.inl e)
  ·rw[if_neg e]at hk;exact h.oth k hk
theorem iM.record (h:iM nm a n c lens Pp Ee now) (hn:n≤256) {p0 v0:B} (hl:p0.length=lens 0):iM nm a n c lens (fun p v=>(p=p0∧v=v0)∨(p≠p0∧Pp p v)) Ee (J.ins now (bP nm 0 p0 0) v0):=by
 refine⟨J.mN h.asc _ _, ?_, ?_,fun p v=> ?_,fun i p t q h1 h2 h3=> ?_,fun k hk=> ?_,fun p v hp=> ?_,h.lenE⟩
 ·rw[J.bW,if_neg (iZ nm 0 p0 0)];exact h.own
 ·rw[J.bW,if_neg (ll nm 0 p0 0)];exact h.tim
 ·rw[J.bW];by_cases e:p=p0
  ·subst e;rw[if_pos rfl];constructor
   ·intro hh;injection hh with hh;exact .inl ⟨rfl,hh.symm⟩
   ·rintro(⟨_,rfl⟩|⟨hh,_⟩)
    ·rfl
    ·exact absurd rfl hh
  ·rw[if_neg (fun hh=>e (oC (by decide) (by decide) (by decide) (by decide) (fun _=>rfl) (fun _=>rfl) hh).2.1),h.pri p v];constructor
   ·exact fun hh=> .inr ⟨e,hh⟩
   ·rintro(⟨hh,_⟩|⟨_,hh⟩)
    ·exact absurd hh e
    ·exact hh
 ·rw[J.bW,if_neg (fun hh=>by have:=mV (by omega) (by omega) hh;omega)];exact h.alt i p t q h1 h2 h3
 ·rw[J.bW]at hk;by_cases e:k=bP nm 0 p0 0
  ·exact .inr (.inr (.inl ⟨p0,e⟩))
  ·rw[if_neg e]at hk;exact h.oth k hk
 ·rcases hp with⟨rfl,_⟩|⟨_,hp⟩
  ·exact hl
  ·exact h.len0 p v hp
theorem iM.F5 (h:iM nm a n c lens Pp Ee now) (hn:n≤256) (p0:B):iM nm a n c lens (fun p v=>p≠p0∧Pp p v) Ee (J.del now (bP nm 0 p0 0)):=by
 refine⟨J.oA h.asc _, ?_, ?_,fun p v=> ?_,fun i p t q h1 h2 h3=> ?_,fun k hk=> ?_,fun p v hp=>h.len0 p v hp.2,h.lenE⟩
 ·rw[J.bT,if_neg (iZ nm 0 p0 0)];exact h.own
 ·rw[J.bT,if_neg (ll nm 0 p0 0)];exact h.tim
 ·rw[J.bT];by_cases e:p=p0
  ·subst e;rw[if_pos rfl];exact⟨(fun hh=>by cases hh),fun hh=>absurd rfl hh.1⟩
  ·rw[if_neg (fun hh=>e (oC (by decide) (by decide) (by decide) (by decide) (fun _=>rfl) (fun _=>rfl) hh).2.1),h.pri p v];exact⟨fun hh=>⟨e,hh⟩,fun hh=>hh.2⟩
 ·rw[J.bT,if_neg (fun hh=>by have:=mV (by omega) (by omega) hh;omega)];exact h.alt i p t q h1 h2 h3
 ·rw[J.bT]at hk;by_cases e:k=bP nm 0 p0 0
  ·rw[if_pos e]at hk;exact absurd rfl hk
  ·rw[if_neg e]at hk;exact h.oth k hk
theorem iM.entry (h:iM nm a n c lens Pp Ee now) (hn:n≤256) {i0:Nat} (hi:1≤i0∧i0<n) {p0 q0:B} {t0:Nat} (ht:t0<4294967296) (hl:p0.length=lens i0):
  iM nm a n c lens Pp (fun i p t q=>(i=i0∧p=p0∧t=t0∧q=q0)∨(¬(i=i0∧p=p0∧t=t0)∧Ee i p t q)) (J.ins now (bP nm i0 p0 t0) q0):=by
 refine⟨J.mN h.asc _ _, ?_, ?_,fun p v=> ?_,fun i p t q h1 h2 h3=> ?_,fun k hk=> ?_,h.len0,fun i p t q hp=> ?_⟩
 ·rw[J.bW,if_neg (iZ nm i0 p0 t0)];exact h.own
 ·rw[J.bW,if_neg (ll nm i0 p0 t0)];exact h.tim
 ·rw[J.bW,if_neg (fun hh=>by have:=mV (by omega) (by omega) hh;omega)];exact h.pri p v
 ·rw[J.bW];by_cases e:i=i0∧p=p0∧t=t0
  ·rw[if_pos (by rw[e.1,e.2.1,e.2.2])];constructor
   ·intro hh;injection hh with hh;exact .inl ⟨e.1,e.2.1,e.2.2,hh.symm⟩
   ·rintro(⟨_,_,_,rfl⟩|⟨hh,_⟩)
    ·rfl
    ·exact absurd e hh
  ·rw[if_neg (fun hh=>e (oC (by omega) (by omega) h3 ht (fun h=>by omega) (fun h=>by omega) hh)),h.alt i p t q h1 h2 h3];constructor
   ·exact fun hh=> .inr ⟨e,hh⟩
   ·rintro(⟨h1,h2,h3,_⟩|⟨_,hh⟩)
    ·exact absurd ⟨h1,h2,h3⟩ e
    ·exact hh
 ·rw[J.bW]at hk;by_cases e:k=bP nm i0 p0 t0
  ·exact .inr (.inr (.inr ⟨i0,p0,t0,hi.1,hi.2,ht,e⟩))
  ·rw[if_neg e]at hk;exact h.oth k hk
 ·rcases hp with⟨rfl,rfl,_⟩|⟨_,hp⟩
  ·exact hl
  ·exact h.lenE i p t q hp
theorem iM.CQ (h:iM nm a n c lens Pp Ee now) (hn:n≤256) {i0:Nat} (hi:1≤i0∧i0<n) (p0:B) {t0:Nat} (ht:t0<4294967296):
  iM nm a n c lens Pp (fun i p t q=>¬(i=i0∧p=p0∧t=t0)∧Ee i p t q) (J.del now (bP nm i0 p0 t0)):=by
 refine⟨J.oA h.asc _, ?_, ?_,fun p v=> ?_,fun i p t q h1 h2 h3=> ?_,fun k hk=> ?_,h.len0,fun i p t q hp=>h.lenE i p t q hp.2⟩
 ·rw[J.bT,if_neg (iZ nm i0 p0 t0)];exact h.own
 ·rw[J.bT,if_neg (ll nm i0 p0 t0)];exact h.tim
 ·rw[J.bT,if_neg (fun hh=>by have:=mV (by omega) (by omega) hh;omega)];exact h.pri p v
 ·rw[J.bT];by_cases e:i=i0∧p=p0∧t=t0
  ·rw[if_pos (by rw[e.1,e.2.1,e.2.2])];exact⟨(fun hh=>by cases hh),fun hh=>absurd e hh.1⟩
  ·rw[if_neg (fun hh=>e (oC (by omega) (by omega) h3 ht (fun h=>by omega) (fun h=>by omega) hh)),h.alt i p t q h1 h2 h3];exact⟨fun hh=>⟨e,hh⟩,fun hh=>hh.2⟩
 ·rw[J.bT]at hk;by_cases e:k=bP nm i0 p0 t0
  ·rw[if_pos e]at hk;exact absurd rfl hk
  ·rw[if_neg e]at hk;exact h.oth k hk
theorem iM.same (h:iM nm a n c lens Pp Ee now) {Vt:B→B→Prop} {SY:Nat→B→Nat→B→Prop} (hp:∀p v,Vt p v↔Pp p v) (he:∀i p t q,1≤i→i<n→(SY i p t q↔Ee i p t q)) (hl:∀i p t q,SY i p t q→p.length=lens i):iM nm a n c lens Vt SY now:=
 ⟨h.asc,h.own,h.tim,fun p v=>(h.pri p v).trans (hp p v).symm,fun i p t q h1 h2 h3=>(h.alt i p t q h1 h2 h3).trans (he i p t q h1 h2).symm,h.oth,fun p v hh=>h.len0 p v ((hp p v).1 hh),hl⟩
end
end X
namespace X
structure Ky where
 at_:Nat
 len:Nat
 dup:Bool
structure Row where
 b:B
 ts:List Nat
def Ky.val (k:Ky) (b:B):B:=(b.drop k.at_).take k.len
def aF (ks:List Ky) (i:Nat):Ky:=ks.getD i ⟨0,0,false⟩
def val (ks:List Ky) (i:Nat) (b:B):B:=(aF ks i).val b
def Row.t (r:Row) (i:Nat):Nat:=r.ts.getD i 0
def lens (ks:List Ky) (i:Nat):Nat:=(aF ks i).len
def nC (ks:List Ky) (i:Nat) (x y:Row):Bool:=decide (val ks i x.b<val ks i y.b)||(decide (val ks i x.b=val ks i y.b)&&decide (x.t i<y.t i))
theorem pV {ks:List Ky} {i:Nat} {x y:Row}:nC ks i x y=true↔val ks i x.b<val ks i y.b∨val ks i x.b=val ks i y.b∧x.t i<y.t i:=by
 unfold nC;simp
theorem vI {ks:List Ky} {i:Nat} {x y z:Row} (h:nC ks i x y=true) (k:nC ks i y z=true):nC ks i x z=true:=by
 rw[pV]at h k⊢;rcases h with h|⟨h1,h2⟩<;>rcases k with k|⟨k1,k2⟩
 ·exact .inl (List.lt_trans h k)
 ·exact .inl (by rw[←k1];exact h)
 ·exact .inl (by rw[h1];exact k)
 ·exact .inr ⟨h1.trans k1,Nat.lt_trans h2 k2⟩
theorem DA {ks:List Ky} {i:Nat} {x y:Row} (h:¬nC ks i x y=true) (hd:val ks i x.b≠val ks i y.b∨x.t i≠y.t i):nC ks i y x=true:=by
 rw[pV]at h⊢;by_cases e:val ks i x.b=val ks i y.b
 ·refine .inr ⟨e.symm, ?_⟩;have h1:¬x.t i<y.t i:=fun hh=>h (.inr ⟨e,hh⟩);have h2:x.t i≠y.t i:=hd.resolve_left (fun hh=>hh e);omega
 ·exact .inl (J.FP _ _ (fun hh=>h (.inl hh)) e)
def qZ (ks:List Ky) (i:Nat) (x:Row):List Row→List Row
 |[]=>[x]
 |y::t=>if nC ks i y x then y::qZ ks i x t else x::y::t
def bS (ks:List Ky) (i:Nat) (rows:List Row):List Row:=rows.foldl (fun l x=>qZ ks i x l) []
theorem yg (ks:List Ky) (i:Nat) (x z:Row) (l:List Row):z∈qZ ks i x l↔z=x∨z∈l:=by
 induction l with
 |nil=>simp[qZ]
 |cons y t ih=>
  unfold qZ;split
  ·rw[List.mem_cons,ih,List.mem_cons];constructor
   ·rintro(h|h|h)
    ·exact .inr (.inl h)
    ·exact .inl h
    ·exact .inr (.inr h)
   ·rintro(h|h|h)
    ·exact .inr (.inl h)
    ·exact .inl h
    ·exact .inr (.inr h)
  ·rw[List.mem_cons]
theorem F6 (ks:List Ky) (i:Nat) (x:Row) (l:List Row):(qZ ks i x l).length=l.length+1:=by
 induction l with
 |nil=>rfl
 |cons y t ih=>
  unfold qZ;split
  ·simp[ih]
  ·rfl
theorem JZ (ks:List Ky) (i:Nat) (x:Row) (l:List Row):qZ ks i x l=l.takeWhile (nC ks i · x)++x::l.dropWhile (nC ks i · x):=by
 induction l with
 |nil=>rfl
 |cons y t ih=>
  unfold qZ;rw[List.takeWhile_cons,List.dropWhile_cons];split
  ·rw[ih];rfl
  ·rfl
theorem F7 (ks:List Ky) (i:Nat) (x:Row) (l:List Row) (h:l.Pairwise (nC ks i · ·)) (hd:∀y∈l,val ks i y.b≠val ks i x.b∨y.t i≠x.t i):(qZ ks i x l).Pairwise (nC ks i · ·):=by
 induction l with
 |nil=>exact List.pairwise_singleton _ _
 |cons y t ih=>
  obtain⟨h1,h2⟩:=List.pairwise_cons.1 h;unfold qZ;split
  ·rename_i hy
   refine List.pairwise_cons.2 ⟨fun z hz=> ?_,ih h2 (fun z hz=>hd z (af _ hz))⟩;rcases(yg ks i x z t).1 hz with rfl|hz
   ·exact hy
   ·exact h1 z hz
  ·rename_i hy
   have DB:=DA hy (hd y ae);refine List.pairwise_cons.2 ⟨fun z hz=> ?_,h⟩;rcases ak hz with rfl|hz
   ·exact DB
   ·exact vI DB (h1 z hz)
theorem pW (ks:List Ky) (i:Nat) (rows:List Row) (x:Row):bS ks i (rows++[x])=qZ ks i x (bS ks i rows):=by
 unfold bS;rw[List.foldl_append];rfl
theorem pX {α:Type} {P:List α→Prop} (h0:P []) (h1:∀l x,P l→P (l++[x])):∀l,P l:=by
 intro l;have:∀n (l:List α),l.length=n→P l:=by
  intro n
  induction n with
  |zero=>intro l hl;rw[List.eq_nil_of_length_eq_zero hl];exact h0
  |succ n ih=>
   intro l hl;have hne:l≠[]:=(by intro e;rw[e]at hl;cases hl);rw[←List.dropLast_concat_getLast hne];exact h1 _ _ (ih _ (by rw[List.length_dropLast,hl];rfl))
 exact this _ l rfl
theorem bm (ks:List Ky) (i:Nat) (z:Row) (rows:List Row):z∈bS ks i rows↔z∈rows:=by
 induction rows using pX with
 |h0=>rfl
 |h1 l x ih=>
  rw[pW,yg,ih,List.mem_append,List.mem_singleton];exact or_comm
theorem lJ (ks:List Ky) (i:Nat) (rows:List Row):(bS ks i rows).length=rows.length:=by
 induction rows using pX with
 |h0=>rfl
 |h1 l x ih=>rw[pW,F6,ih,List.length_append];rfl
theorem mX (ks:List Ky) (i:Nat) (rows:List Row) (h:rows.Pairwise fun x y=>val ks i x.b≠val ks i y.b∨x.t i≠y.t i):(bS ks i rows).Pairwise (nC ks i · ·):=by
 induction rows using pX with
 |h0=>exact List.Pairwise.nil
 |h1 l x ih=>
  obtain⟨h1,_,h3⟩:=List.pairwise_append.1 h;rw[pW];exact F7 ks i x _ (ih h1) (fun y hy=>h3 y ((bm ks i y l).1 hy) x (List.mem_singleton_self _))
def bg (ks:List Ky) (size:Nat) (b:B):Bool:=decide (b.length≤size)&&ks.all fun k=>decide (k.at_+k.len≤b.length)
theorem aM {ks:List Ky} {size:Nat} {b:B}:bg ks size b=true↔b.length≤size∧∀k∈ks,k.at_+k.len≤b.length:=by
 unfold bg;simp
theorem aR {ks:List Ky} {i:Nat} (h:i<ks.length):aF ks i∈ks:=by
 unfold aF;rw[List.getD_eq_getElem?_getD,List.getElem?_eq_getElem h];exact List.getElem_mem h
theorem aP {ks:List Ky} {size:Nat} {b:B} (h:bg ks size b=true) {i:Nat} (hi:i<ks.length):(val ks i b).length=lens ks i:=by
 have:=(aM.1 h).2 _ (aR hi);unfold val lens Ky.val;rw[List.length_take,List.length_drop];omega
structure aS (ks:List Ky) (size time:Nat) (rows:List Row):Prop where
 fit:∀r∈rows,bg ks size r.b=true
 tl:∀r∈rows,r.ts.length=ks.length
 t0:∀r∈rows,r.t 0=0
 tp:∀r∈rows,∀i,1≤i→i<ks.length→1≤r.t i∧r.t i≤time
 prim:rows.Pairwise fun x y=>val ks 0 x.b≠val ks 0 y.b
 tm:∀i,1≤i→i<ks.length→rows.Pairwise fun x y=>x.t i≠y.t i
 nodup:∀i,1≤i→i<ks.length→(aF ks i).dup=false→rows.Pairwise fun x y=>val ks i x.b≠val ks i y.b
structure fQ (ks:List Ky) (size:Nat):Prop where
 one:1≤ks.length∧ks.length≤8
 key:∀k∈ks,1≤k.len∧k.len≤160∧k.at_+k.len≤size
 size:1≤size∧size≤4096
 first:(aF ks 0).dup=false
def Pp (ks:List Ky) (rows:List Row) (p v:B):Prop:=∃r∈rows,val ks 0 r.b=p∧r.b=v
def Ee (ks:List Ky) (rows:List Row) (i:Nat) (p:B) (t:Nat) (q:B):Prop:=∃r∈rows,val ks i r.b=p∧r.t i=t∧val ks 0 r.b=q∧i<ks.length
section
variable {ks : List Ky} {size time : Nat} {rows : List Row} {nm a : B} {c : Nat} {now : List (B × B)}
theorem aS.yh (h:aS ks size time rows) {i:Nat} (hi:i<ks.length):rows.Pairwise fun x y=>val ks i x.b≠val ks i y.b∨x.t i≠y.t i:=by
 by_cases h0:i=0
 ·subst h0;exact h.prim.imp (fun hh=> .inl hh)
 ·exact(h.tm i (by omega) hi).imp (fun hh=> .inr hh)
theorem aS.t32 (h:aS ks size time rows) (ht:time<4294967296) {r:Row} (hr:r∈rows) {i:Nat} (hi:i<ks.length):r.t i<4294967296:=by
 by_cases h0:i=0
 ·subst h0;rw[h.t0 r hr];decide
 ·have:=h.tp r hr i (by omega) hi;omega
theorem wN (h:aS ks size time rows) (ht:time<4294967296) {i:Nat} (hi:i<ks.length) {x y:Row} (hx:x∈rows) (hy:y∈rows):bP nm i (val ks i x.b) (x.t i)<bP nm i (val ks i y.b) (y.t i)↔nC ks i x y=true:=by
 rw[pV];exact F3 ((aP (h.fit x hx) hi).trans (aP (h.fit y hy) hi).symm) (h.t32 ht hx hi) (h.t32 ht hy hi) (fun e=>by subst e;rw[h.t0 x hx,h.t0 y hy])
def ln (nm a:B) (ks:List Ky) (rows:List Row) (c:Nat) (now:List (B×B)):Prop:=iM nm a ks.length c (lens ks) (Pp ks rows) (Ee ks rows) now
theorem ln.yi (h:ln nm a ks rows c now) (hr:aS ks size time rows) (ht:time<4294967296) {i:Nat} (hi:i<ks.length) {r:Row} (hm:r∈rows):J.look now (bP nm i (val ks i r.b) (r.t i))≠none:=by
 by_cases h0:i=0
 ·subst h0;rw[hr.t0 r hm,(h.pri _ _).2 ⟨r,hm,rfl,rfl⟩];intro e;cases e
 ·rw[(h.alt i _ _ _ (by omega) hi (hr.t32 ht hm hi)).2 ⟨r,hm,rfl,rfl,rfl,hi⟩];intro e;cases e
theorem ln.keys (h:ln nm a ks rows c now) (hk:ks.length≤256) (hr:aS ks size time rows) (ht:time<4294967296) {i:Nat} (hi:i<ks.length) (v:B) (hv:v.length≤lens ks i):
  (now.map (·.1)).filter (fun k=>Lib.hasPrefix k (pre nm i++v))=((bS ks i rows).filter fun r=>decide ((val ks i r.b).take v.length=v)).map fun r=>bP nm i (val ks i r.b) (r.t i):=by
 refine mU _ _ (List.Pairwise.filter _ (List.pairwise_map.2 h.asc)) ?_ (fun k=> ?_)
 ·rw[List.pairwise_map];refine List.Pairwise.imp_of_mem (fun {x y} hx hy DB=> ?_) (List.Pairwise.filter _ (mX ks i rows (hr.yh hi)));have hx:=(bm ks i x rows).1 (List.mem_filter.1 hx).1;have hy:=(bm ks i y rows).1 (List.mem_filter.1 hy).1;exact(wN hr ht hi hx hy).2 DB
 ·rw[List.mem_filter];constructor
  ·rintro⟨jB,hk2⟩;refine List.mem_map.2 ?_;obtain⟨⟨k',x⟩,hm,rfl⟩:=List.mem_map.1 jB;have hk2:Lib.hasPrefix k' (pre nm i++v)=true:=hk2;have hlk:=J.ic now k' x h.asc hm;rcases h.oth k' (by rw[hlk];intro e;cases e)with rfl|rfl|⟨p,rfl⟩|⟨j,p,t,j1,j2,Fo,rfl⟩
   ·rw[py]at hk2;cases hk2
   ·rw[tB]at hk2;cases hk2
   ·by_cases h0:i=0
    ·subst h0;obtain⟨r,jZ,e1,e2⟩:=(h.pri p x).1 hlk;have hl:v.length≤p.length:=(by rw[←e1,aP (hr.fit r jZ) hi];exact hv);rw[dH hl]at hk2;refine⟨r,List.mem_filter.2 ⟨(bm ks 0 r rows).2 jZ,by rw[e1];exact hk2⟩,by rw[e1,hr.t0 r jZ]⟩
    ·rw[iE (by omega) (by decide) h0]at hk2;cases hk2
   ·by_cases qY:i=j
    ·subst qY;obtain⟨r,jZ,e1,e2,e3,_⟩:=(h.alt i p t x j1 j2 Fo).1 hlk;have hl:v.length≤p.length:=(by rw[←e1,aP (hr.fit r jZ) hi];exact hv);rw[dH hl]at hk2;refine⟨r,List.mem_filter.2 ⟨(bm ks i r rows).2 jZ,by rw[e1];exact hk2⟩,by rw[e1,e2]⟩
    ·rw[iE (by omega) (by omega) qY]at hk2;cases hk2
  ·intro JK;obtain⟨r,MW,rfl⟩:=List.mem_map.1 JK;obtain⟨jZ,hd⟩:=List.mem_filter.1 MW;have jZ:=(bm ks i r rows).1 jZ;have hl:v.length≤(val ks i r.b).length:=(by rw[aP (hr.fit r jZ) hi];exact hv);refine⟨?_,by rw[dH hl];exact hd⟩;have hne:=h.yi hr ht hi jZ;cases hlk:J.look now (bP nm i (val ks i r.b) (r.t i))with
   |none=>exact absurd hlk hne
   |some x=>exact List.mem_map.2 ⟨_,J.gz now _ x hlk,rfl⟩
end
end X
namespace X
structure M where
 ks:List Ky
 size:Nat
 there:Bool
 rows:List Row
 time:Nat
 mode:Nat
 ord:Bool
 key:Nat
 lost:Bool
 value:B
 at_:Nat
 same:Bool
 last:B
 read:Bool
 written:B
abbrev good:B:=[48,48]
def M.new (ks:List Ky) (size:Nat):M:=⟨ks,size,false,[],0,0,false,0,false,[],0,false,[],false,[]⟩
def L0 (k:Ky):B:=R.bF k.at_++R.bF k.len++[if k.dup then 1 else 0]
def attr (size:Nat) (ks:List Ky):B:=2::R.bF size++ks.flatMap L0
theorem J0 (k:Ky):(L0 k).length=9:=by simp[L0,R.df]
theorem yj (ks:List Ky):(ks.flatMap L0).length=9*ks.length:=by
 induction ks with
 |nil=>rfl
 |cons k t ih=>rw[List.flatMap_cons,List.length_append,ih,J0,List.length_cons];omega
theorem jE (size:Nat) (ks:List Ky):(attr size ks).length=5+9*ks.length:=by
 unfold attr;rw[List.cons_append,List.length_cons,List.length_append,R.df,yj];omega
def M.con (nm:B) (m:M) (now:List (B×B)):Prop:=if m.there then ln nm (attr m.size m.ks) m.ks m.rows m.time now else now=[]
structure jA (u:Nat) (m:M):Prop where
 ks:fQ m.ks m.size
 rows:aS m.ks m.size m.time m.rows
 none:m.there=false→m.rows=[]∧m.mode=0∧m.time=0
 many:m.rows.length≤u
 time:m.time≤u
 key:m.key<m.ks.length
 pos:m.lost=false→(m.key=0∧m.value=[]∧m.at_=0)∨(m.value.length=lens m.ks m.key∧(m.key=0→m.at_=0))
 at_:m.at_≤u
 mode:m.mode≤4
theorem jA.mono {u v:Nat} {m:M} (h:jA u m) (hv:u≤v):jA v m:=
 ⟨h.ks,h.rows,h.none,au h.many hv,au h.time hv,h.key,h.pos,au h.at_ hv,h.mode⟩
theorem J1 {ks:List Ky} {size:Nat} (h:fQ ks size):jA 0 (M.new ks size):=
 ⟨h,⟨fun _ h=>(by cases h),fun _ h=>(by cases h),fun _ h=>(by cases h),fun _ h=>(by cases h),List.Pairwise.nil,fun _ _ _=>List.Pairwise.nil,fun _ _ _ _=>List.Pairwise.nil⟩,fun _=>⟨rfl,rfl,rfl⟩,aj _,aj _,h.one.1,fun _=> .inl ⟨rfl,rfl,rfl⟩,aj _,Nat.zero_le _⟩
def cB (di:B) (Ps:List Nat) (mode:Nat):B:=if mode=0 then [52,50]else if mode∈Ps then good else di
def rK (ks:List Ky) (rows:List Row):B:=match(bS ks 0 rows).getLast? with
 |some r=>val ks 0 r.b
 |none=>[]
def M.opened (m:M) (md:Nat) (ord:Bool):M:=
 {m with there:=true,rows:=if md=2 then []else m.rows,time:=if md=2 then 0 else m.time,mode:=md,ord:=ord,key:=0,lost:=false,value:=[],at_:=0,same:=true,read:=false,written:=if md=4 then rK m.ks m.rows else []}
def M.open (m:M) (md:Nat) (ord:Bool):M×B:=
 if md<1∨4<md then(m,[51,48])else if m.mode≠0 then(m,[52,49])else if md≠2∧m.there=false then(m,[51,53])else(m.opened md ord,good)
def M.close (m:M):M×B:=if m.mode=0 then(m,[52,50])else({m with mode:=0},good)
def M.dx (m:M):M:={m with lost:=true,read:=false}
def M.more (m:M) (r:Row):Bool:=match(bS m.ks m.key m.rows).find? (nC m.ks m.key r ·)with
 |some x=>decide (val m.ks m.key x.b=val m.ks m.key r.b)
 |none=>false
def M.take (m:M) (r:Row):M:={m with lost:=false,value:=val m.ks m.key r.b,at_:=r.t m.key,same:=false,last:=val m.ks 0 r.b,read:=true}
def M.CR (m:M) (r:Row):B:=if 0<m.key∧m.more r=true then [48,50]else good
def sj (ks:List Ky) (i:Nat) (v:B) (t:Nat) (same:Bool) (r:Row):Bool:=decide (v<val ks i r.b)||(decide (v=val ks i r.b)&&(decide (t<r.t i)||(decide (r.t i=t)&&same)))
def M.at (m:M):Option Row:=(bS m.ks m.key m.rows).find? (sj m.ks m.key m.value m.at_ m.same)
def M.next (m:M):M×Option B×B:=
 if cB [52,55] [1,3] m.mode≠good then(m,none,cB [52,55] [1,3] m.mode)
 else if m.lost=true then({m with read:=false},none,[52,54])
 else match m.at with
 |some r=>(m.take r,some r.b,m.CR r)
 |none=>(m.dx,none,[49,48])
def M.AE (m:M) (i:Nat) (v:B):Option Row:=(bS m.ks i m.rows).find? fun r=>decide (val m.ks i r.b=v)
def M.keyed (m:M) (i:Nat):M:={m with key:=i}
def M.get (m:M) (k:Int) (b:B):M×Option B×B:=
 if cB [52,55] [1,3] m.mode≠good then(m,none,cB [52,55] [1,3] m.mode)
 else if k<0∨m.ks.length≤k then(m.dx,none,[50,51])
 else if b.length<(aF m.ks k.toNat).at_+(aF m.ks k.toNat).len then(m.dx,none,[52,52])
 else match m.AE k.toNat (val m.ks k.toNat b)with
 |some r=>((m.dx.keyed k.toNat).take r,some r.b,(m.dx.keyed k.toNat).CR r)
 |none=>(m.dx,none,[50,51])
def M.find (m:M) (p:B):Option Row:=m.rows.find? fun r=>decide (val m.ks 0 r.b=p)
def keeps (ks:List Ky) (i:Nat) (b:B) (old:Option Row):Bool:=match old with
 |some o=>decide (val ks i o.b=val ks i b)
 |none=>false
def M.cN (m:M) (i:Nat) (b:B) (old:Option Row):Bool:= !keeps m.ks i b old&&m.rows.any fun r=>decide (val m.ks i r.b=val m.ks i b)
def M.dZ (m:M) (b:B) (old:Option Row):B:=
 if(List.range' 1 (m.ks.length - 1)).any (fun i=>m.cN i b old&& !(aF m.ks i).dup)then [50,50]
 else if(List.range' 1 (m.ks.length - 1)).any (fun i=>m.cN i b old)then [48,50]else good
def M.times (m:M) (b:B) (old:Option Row):List Nat:=(List.range m.ks.length).map fun i=>if i=0 then 0 else match old with
 |some o=>if val m.ks i o.b=val m.ks i b then o.t i else m.time+1
 |none=>m.time+1
def M.put (m:M) (b:B) (old:Option Row):M:={m with rows:=(m.rows.filter fun r=>decide (val m.ks 0 r.b≠val m.ks 0 b))++[⟨b,m.times b old⟩],time:=m.time+1}
def M.aO (m:M):M:={m with read:=false}
def M.write (m:M) (b:B):M×B:=
 if cB [52,56] [2,4,3] m.mode≠good then(m,cB [52,56] [2,4,3] m.mode)
 else if bg m.ks m.size b=false then(m.aO,[52,52])
 else if m.ord=true∧m.mode≠3∧¬m.written<val m.ks 0 b then(m.aO,[50,49])
 else if(m.find (val m.ks 0 b)).isSome∨m.dZ b none=[50,50]then(m.aO,[50,50])
 else({m.aO.put b none with written:=val m.ks 0 b},m.dZ b none)
def M.rewrite (m:M) (b:B):M×B:=
 if cB [52,57] [3] m.mode≠good then(m,cB [52,57] [3] m.mode)
 else if bg m.ks m.size b=false then(m.aO,[52,52])
 else if m.ord=true∧m.read=false then(m.aO,[52,51])
 else if m.ord=true∧val m.ks 0 b≠m.last then(m.aO,[50,49])
 else match m.find (val m.ks 0 b)with
 |none=>(m.aO,[50,51])
 |some o=>if m.dZ b (some o)=[50,50]then(m.aO,[50,50])else(m.aO.put b (some o),m.dZ b (some o))
def M.gone (m:M) (p:B):M:={m with rows:=m.rows.filter fun r=>decide (val m.ks 0 r.b≠p)}
def M.delete (m:M) (b:B):M×B:=
 if cB [52,57] [3] m.mode≠good then(m,cB [52,57] [3] m.mode)
 else if m.ord=false∧b.length<(aF m.ks 0).at_+(aF m.ks 0).len then(m.aO,[52,52])
 else if m.ord=true∧m.read=false then(m.aO,[52,51])
 else match m.find (if m.ord then m.last else val m.ks 0 b)with
 |none=>(m.aO,[50,51])
 |some _=>(m.aO.gone (if m.ord then m.last else val m.ks 0 b),good)
def rel (r:Nat) (x y:B):Bool:=
 if r=0 then decide (x=y)else if r=1 then decide (y<x)else if r=2 then !decide (x<y)else if r=3 then decide (x<y)else if r=4 then !decide (y<x)else false
def M.place (m:M) (i r:Nat) (v:B):Option Row:=
 if r=3∨r=4 then((bS m.ks i m.rows).filter fun x=>rel r ((val m.ks i x.b).take v.length) v).getLast?
 else(bS m.ks i m.rows).find? fun x=>rel r ((val m.ks i x.b).take v.length) v
def M.start (m:M) (k:Int) (r:Nat) (v:B):M×B:=
 if cB [52,55] [1,3] m.mode≠good then(m,cB [52,55] [1,3] m.mode)
 else if k<0∨m.ks.length≤k∨v.length=0∨(aF m.ks k.toNat).len<v.length then(m.dx,[50,51])
 else match m.place k.toNat r v with
 |none=>(m.dx,[50,51])
 |some x=>({m with read:=false,lost:=false,key:=k.toNat,value:=val m.ks k.toNat x.b,at_:=x.t k.toNat,same:=true},good)
end X
end Go.Proofs.YtipljcmmokaokaaGreat
namespace Go.Proofs.YtipljcmmokaokaaGreat
open Go.RowKit
set_option maxRecDepth 100000
abbrev u8 (b:UInt8):Value:= .int .u8 (b.toNat:Int)
def dy (l:List UInt8):List Value:=l.map u8
theorem iU (l:List UInt8):(dy l).length=l.length:=by simp[dy]
theorem wO (a b:List UInt8):dy (a++b)=dy a++dy b:=by simp[dy]
theorem sO (l:List UInt8) (j:Nat) (h:j<l.length):(dy l)[j]? =some (u8 l[j]):=by simp[dy,h]
structure Step (M M':Nat→Prop) (w w':World):Prop where
 os:w'.os=w.os
 tape:w'.tape=w.tape
 output:w'.output=w.output
 size:w.heap.size≤w'.heap.size
 block:∀k,k<w.heap.size→¬M k→w'.heap[k]? =w.heap[k]?
 sub:∀k,k<w.heap.size→M' k→M k
theorem Step.trans {M M' Vu:Nat→Prop} {a b c:World} (h:Step M M' a b) (k:Step M' Vu b c):Step M Vu a c:=
 ⟨k.os.trans h.os,k.tape.trans h.tape,k.output.trans h.output,au h.size k.size,
  fun i hi hn=>(k.block i (aq hi h.size) (fun h'=>hn (h.sub i hi h'))).trans (h.block i hi hn),
  fun i hi hm=>h.sub i hi (k.sub i (aq hi h.size) hm)⟩
theorem Step.refl (M:Nat→Prop) (w:World):Step M M w w:=⟨rfl,rfl,rfl,aj _,fun _ _ _=>rfl,fun _ _ h=>h⟩
theorem Step.aH {M:Nat→Prop} {w w':World} (h:Below w.heap.size w w'):Step M M w w':=
 ⟨h.os,h.tape,h.output,h.size,fun k hk _=>h.block k hk,fun _ _ h=>h⟩
theorem Step.bY {M:Nat→Prop} {w w':World} {row:Option Nat} (h:w.grownBy w' row) (hr:∀k,row=some k→k<w.heap.size→M k):Step M M w w':=
 ⟨h.os,h.tape,h.output,h.size,fun k hk hn=>h.block k hk (fun e=>hn (hr k e.symm hk)),fun _ _ h=>h⟩
theorem Step.below {M M':Nat→Prop} {w w':World} {B:Nat} (h:Step M M' w w') (hB:B≤w.heap.size) (hM:∀k,M k→B≤k):Below B w w':=
 ⟨h.os,h.tape,h.output,h.size,fun k hk=>h.block k (aq hk hB) (fun hm=>absurd (hM k hm) (by omega))⟩
theorem Step.cell {M M':Nat→Prop} {w w':World} (h:Step M M' w w') {a:Addr} (ha:a.block<w.heap.size) (hM:¬M a.block):w'.cell? a=w.cell? a:=
 World.cell?_of_block (h.block _ ha hM)
def By (w:World) (M:Nat→Prop) (A:Option Addr) (n:Nat) (l:List UInt8):Prop:=
 l.length=n∧(0<n→∃b o,A=some ⟨b,o,none⟩∧b<w.heap.size∧¬M b∧∀j (h:j<l.length),w.cell? ⟨b,o+j,none⟩=some (u8 l[j]))
abbrev bL:Nat→Prop:=fun _=>False
section
variable {w w' : World} {M M' : Nat → Prop} {A : Option Addr} {n : Nat} {l : List UInt8}
theorem By.iF:By w M A 0 []:=⟨rfl,fun h=>absurd h (by omega)⟩
theorem By.step (h:By w M A n l) (hs:Step M M' w w'):By w' M' A n l:=
 ⟨h.1,fun hn=>by
  obtain⟨b,o,e,hb,hM,hc⟩:=h.2 hn;exact⟨b,o,e,aq hb hs.size,fun hm=>hM (hs.sub b hb hm),fun j hj=>(hs.cell (a:=⟨b,o+j,none⟩) hb hM).trans (hc j hj)⟩⟩
theorem By.below (h:By w M A n l) (hb:Below w.heap.size w w'):By w' M A n l:=h.step (Step.aH hb)
theorem By.Vv (h:By w M A n l):By w bL A n l:=
 ⟨h.1,fun hn=>by
  obtain⟨b,o,e,hb,_,hc⟩:=h.2 hn;exact⟨b,o,e,hb,fun h=>h,hc⟩⟩
theorem By.drewN (h:By w M A n l) (k:Nat):By (w.drewN k) M A n l:=h
theorem By.drew (h:By w M A n l):By w.drew M A n l:=h
theorem By.alloc (h:By w M A n l) (o:Obj):By (w.alloc o) M A n l:=h.below ((ai _ _).alloc (aj _) _)
theorem By.cell (h:By w M A n l) {k:Nat} (hk:k<n):∃b o,A=some ⟨b,o,none⟩∧b<w.heap.size∧¬M b∧w.cell? ⟨b,o+k,none⟩=some (u8 (l[k]'(by rw[h.1];exact hk))):=by
 obtain⟨b,o,e,hb,hM,hc⟩:=h.2 (by omega);exact⟨b,o,e,hb,hM,hc k (by rw[h.1];exact hk)⟩
theorem By.take (h:By w M A n l) {k:Nat} (hk:k≤n):By w M A k (l.take k):=
 ⟨by rw[List.length_take,h.1];omega,fun hn=>by
  obtain⟨b,o,e,hb,hM,hc⟩:=h.2 (by omega);exact⟨b,o,e,hb,hM,fun j hj=>by rw[hc j (by rw[h.1];rw[List.length_take,h.1]at hj;omega)];simp⟩⟩
theorem lq (b o k:Nat):(⟨b,o,none⟩:Addr).add k=⟨b,o+k,none⟩:=by
 unfold Addr.add;by_cases h:k=0<;>simp[h]
theorem By.at_ (h:By w M A n l) (hn:0<n):∃ad,A=some ad∧ad.block<w.heap.size∧¬M ad.block∧∀j (h:j<l.length),w.cell? (ad.add j)=some (u8 l[j]):=by
 obtain⟨b,o,e,hb,hM,hc⟩:=h.2 hn;exact⟨_,e,hb,hM,fun j hj=>by rw[lq];exact hc j hj⟩
theorem By.drop (h:By w M A n l) {k cap:Nat} (hk:k≤n) (hc:n≤cap):By w M (if cap=k then A else A.map (·.add k)) (n - k) (l.drop k):=
 ⟨by rw[List.length_drop,h.1],fun hn=>by
  obtain⟨b,o,e,hb,hM,cA⟩:=h.2 (by omega);subst e;rw[if_neg (by omega)];refine⟨b,o+k,by simp[lq],hb,hM,fun j hj=> ?_⟩;rw[Nat.add_assoc,cA (k+j) (by rw[List.length_drop]at hj;omega)];simp⟩
end
theorem J2 (l:List UInt8):∀u∈dy l,u.oneCell'=true:=by
 intro u hu;simp only[dy,List.mem_map]at hu;obtain⟨b,_,rfl⟩:=hu;rfl
theorem Tryz.CS:(Tryz.prog.info? 5).map (fun i=>(i.zero,i.size,i.bytes))=some (some (.int .u8 0),1,1):=by kernel_rfl
section
variable {P : Program} (w : World)
theorem lK (base:Nat) (t ty e:TypeId) (i:TypeInfo) (size:Nat) (ht:P.underlying t=some (.slice e)) (hi:P.info? e=some i)
  (v:Value) (n:Nat) (xs:List Value) (hown:w.ownsRow base e size v n xs) (A:Option Addr) (c:Nat):(Builtin.append_ #[t,t] ty #[v, .slice A 0 c]).run P w= .ok v w:=by
 rcases hown.2 with⟨rfl,rfl⟩|⟨g,cap,cur,rfl,_,_,Fp,_⟩
 ·cases A<;>simp[Builtin.append_,run_underlying ht,sizeOf,typeInfo,hi,Builtin.lenOf,Builtin.firstCells,loadCells,loadCellsFrom,Result.andThen,storeCells]
 ·cases A<;>simp[Builtin.append_,run_underlying ht,sizeOf,typeInfo,hi,Builtin.lenOf,Builtin.firstCells,loadCells,loadCellsFrom,Result.andThen,Fp,storeCells]
end
theorem ku (w:World) (base:Nat) (v:Value) (n:Nat) (l:List UInt8) (hown:w.ownsRow base 5 1 v n (dy l)) (M:Nat→Prop) (A:Option Addr) (m c:Nat) (x:List UInt8) (hx:By w M A m x)
  (hb:n+m≤100000000) (hbase:base≤w.heap.size) (ty:TypeId):
  ∃v' w',(Builtin.append_ #[40,40] ty #[v, .slice A m c]).run Tryz.prog w= .ok v' w'∧w'.ownsRow base 5 1 v' (n+m) (dy (l++x))∧w.grownBy w' v.ownBlock∧(v'.ownBlock=v.ownBlock∨v'.ownBlock=some w.heap.size)∧(v'= .slice none 0 0↔v= .slice none 0 0∧m=0):=by
 obtain⟨i0,hi,hz0,hz1,hz2⟩:=info_parts Tryz.CS;rcases Nat.eq_zero_or_pos m with h0|h0
 ·subst h0;obtain rfl:x=[]:=List.eq_nil_of_length_eq_zero hx.1;exact⟨v,w,lK w base _ ty _ i0 1 Tryz.underlying40 hi v n _ hown A c,by simpa using hown,World.grownBy.refl w _, .inl rfl,by simp⟩
 ·obtain⟨ad,rfl,_,_,hc⟩:=hx.at_ h0;obtain⟨v',w',hr,h1,h2,h3,h4⟩:=run_append_own_at (P:=Tryz.prog) w base 40 ty 5 i0 (.int .u8 0) 1 1 Tryz.underlying40 hi hz0 hz1 hz2 rfl (by decide) v n (dy l) hown ad m c (dy x) (by rw[iU,hx.1,Nat.mul_one])
   (fun j u hu=>by
    have hj:j<x.length:=by
     by_cases hj:j<x.length
     ·exact hj
     ·rw[List.getElem?_eq_none (by rw[iU];omega)]at hu;cases hu
    rw[sO x j hj]at hu;injection hu with hu;rw[←hu];exact hc j hj) (J2 x) (by unfold maxLen;omega) (by omega) hbase
  exact⟨v',w',hr,by rw[wO];exact h1,h2,h4,h3⟩
theorem tC (w:World) (base:Nat) (v:Value) (n:Nat) (l:List UInt8) (hown:w.ownsRow base 5 1 v n (dy l)) (s:ByteArray)
  (hb:n+s.size≤100000000) (hbase:base≤w.heap.size) (ty:TypeId):
  ∃v' w',(Builtin.append_ #[40,9] ty #[v, .string s]).run Tryz.prog w= .ok v' w'∧w'.ownsRow base 5 1 v' (n+s.size) (dy (l++s.data.toList))∧w.grownBy w' v.ownBlock:=by
 obtain⟨i0,hi,hz0,hz1,hz2⟩:=info_parts Tryz.CS;obtain⟨v',w',hr,h1,h2,_⟩:=Lib.run_append_own_string (P:=Tryz.prog) w base 40 9 ty 5 i0 Tryz.underlying40 Tryz.underlying9 hi hz0 hz1 hz2 v n (dy l) hown s (by unfold maxLen;omega) (by omega) hbase;exact⟨v',w',hr,by rw[wO];exact h1,h2⟩
section
variable {w : World} {ops : Array Oper} {rest : List Oper} {o : Oper} {a : Act} {Q : Exit → Act → World → Prop}
theorem aU (hgd:o.guard=none) (s x:Operand) (ho:o.op= .call {callee:= .builtin .append,args:=#[s,x],argTypes:=#[40,40]})
  (base:Nat) (v:Value) (n:Nat) (l:List UInt8) (hs:a.eval s=v) (hown:w.ownsRow base 5 1 v n (dy l)) (M:Nat→Prop) (A:Option Addr) (m c:Nat) (x':List UInt8) (hx:a.eval x= .slice A m c) (hr:By w M A m x')
  (hb:n+m≤100000000) (hbase:base≤w.heap.size)
  (h:∀v' w',w'.ownsRow base 5 1 v' (n+m) (dy (l++x'))→w.grownBy w' v.ownBlock→(v'.ownBlock=v.ownBlock∨v'.ownBlock=some w.heap.size)→(v'= .slice none 0 0↔v= .slice none 0 0∧m=0)→wpList Tryz.prog ops Q rest (a.put o.dst v') w'):wpList Tryz.prog ops Q (o::rest) a w:=by
 refine wpList_plain hgd fun K hK=> ?_;obtain⟨v',w',hrun,h2,h3,h4,h5⟩:=ku w base v n l hown M A m c x' hr hb hbase o.type;unfold Oper.wp execOp;simp only[ho,resolve,invoke,builtin,Sem.run_bind,Sem.run_pure,Result.andThen_ok,List.map_toArray,List.map_cons,List.map_nil,hs,hx,hrun];exact hK _ _ (h v' w' h2 h3 h4 h5)
end
theorem kf {w:World} {base n:Nat} {v:Value} {l:List UInt8} {M:Nat→Prop} (h:w.ownsRow base 5 1 v n (dy l)) (hM:∀k,M k→k<base):∃A c,v= .slice A n c∧n≤c∧By w M A n l:=by
 have hl:l.length=n:=by have:=h.1;simpa [iU] using this
 rcases h.2 with⟨rfl,rfl⟩|⟨g,cap,cur,rfl,hbase,hb,h1,h2,h3,h4⟩
 ·exact⟨none,0,rfl,aj _,hl,fun h=>absurd h (by omega)⟩
 ·refine⟨_,cap,rfl,h1,hl,fun _=>⟨g,0,rfl,(ah hb).1,fun hm=>by have:=hM g hm;omega,fun j hj=> ?_⟩⟩;rw[Nat.zero_add];have:=h.cellAt j (by omega);rw[this,sO l j hj]
theorem By.weak {w:World} {M M':Nat→Prop} {A:Option Addr} {n:Nat} {l:List UInt8} (h:By w M A n l) (hM:∀k,M' k→M k):By w M' A n l:=
 ⟨h.1,fun hn=>by
  obtain⟨b,o,e,hb,hm,hc⟩:=h.2 hn;exact⟨b,o,e,hb,fun h'=>hm (hM _ h'),hc⟩⟩
def Sl (w:World) (M:Nat→Prop) (v:Value) (l:List UInt8):Prop:=
 (∃A,v= .slice A 0 0∧l=[])∨∃b o c,v= .slice (some ⟨b,o,none⟩) l.length c∧l.length≤c∧b<w.heap.size∧By w M (some ⟨b,o,none⟩) l.length l
def U8 (w:World) (b:Nat):Prop:=b<w.heap.size∧∃(cur:Array Value) (_:Unit),w.heap[b]? =some (.cells cur 5 (0,0))
theorem U8.same {w w':World} {b:Nat} (h:U8 w b) (hs:w.heap.size≤w'.heap.size) (hb:w'.heap[b]? =w.heap[b]?):U8 w' b:=by
 obtain⟨h1,cur,fr,e⟩:=h;exact⟨aq h1 hs,cur,fr,hb.trans e⟩
def cE (w:World) (M:Nat→Prop) (v:Value) (l:List UInt8):Prop:=
 (v= .slice none 0 0∧l=[])∨∃b o,v= .slice (some ⟨b,o,none⟩) l.length l.length∧l.length≤maxLen∧U8 w b∧¬M b∧By w M (some ⟨b,o,none⟩) l.length l
section
variable {w w' : World} {M M' : Nat → Prop} {v : Value} {l : List UInt8}
theorem cE.sl (h:cE w M v l):Sl w M v l:=by
 rcases h with⟨h,h'⟩|⟨b,o,e,h1,h2,_,h3⟩
 ·exact .inl ⟨none,h,h'⟩
 ·exact .inr ⟨b,o,_,e,aj _,h2.1,h3⟩
theorem cE.step (h:cE w M v l) (hs:Step M M' w w'):cE w' M' v l:=by
 rcases h with h|⟨b,o,e,h1,h2,hm,h3⟩
 ·exact .inl h
 ·exact .inr ⟨b,o,e,h1,h2.same hs.size (hs.block b h2.1 hm),fun h=>hm (hs.sub b h2.1 h),h3.step hs⟩
theorem Sl.step (h:Sl w M v l) (hs:Step M M' w w'):Sl w' M' v l:=by
 rcases h with h|⟨b,o,c,e,h0,h2,h3⟩
 ·exact .inl h
 ·exact .inr ⟨b,o,c,e,h0,aq h2 hs.size,h3.step hs⟩
theorem Sl.weak (h:Sl w M v l) (hM:∀k,M' k→M k):Sl w M' v l:=by
 rcases h with h|⟨b,o,c,e,h0,h2,h3⟩
 ·exact .inl h
 ·exact .inr ⟨b,o,c,e,h0,h2,h3.weak hM⟩
theorem cE.weak (h:cE w M v l) (hM:∀k,M' k→M k):cE w M' v l:=by
 rcases h with h|⟨b,o,e,h1,h2,hm,h3⟩
 ·exact .inl h
 ·exact .inr ⟨b,o,e,h1,h2,fun h=>hm (hM b h),h3.weak hM⟩
theorem Sl.iF:Sl w M (.slice none 0 0) []:= .inl ⟨none,rfl,rfl⟩
theorem cE.iF:cE w M (.slice none 0 0) []:= .inl ⟨rfl,rfl⟩
theorem Sl.by (h:Sl w M v l):∃A c,v= .slice A l.length c∧l.length≤c∧By w M A l.length l:=by
 rcases h with⟨A,rfl,rfl⟩|⟨b,o,c,rfl,h0,_,h3⟩
 ·exact⟨A,0,rfl,aj _,By.iF⟩
 ·exact⟨_,c,rfl,h0,h3⟩
end
theorem DC (A:Addr) (n c:Nat) (w:World) (hc:n≤c):
  Calls Tryz.prog 83 #[.slice (some A) n c] w fun e w'=>e= .returned (.slice (some A) n n)∧w=w':=by
 go_enter Tryz.func83,Tryz.ntmps83;go_wp2;go_ret;exact⟨rfl,rfl⟩
theorem DD (w:World):
  Calls Tryz.prog 83 #[.slice none 0 0] w fun e w'=>e= .returned (.slice none 0 0)∧w=w':=by
 go_enter Tryz.func83,Tryz.ntmps83;go_wp2;go_ret;exact⟨rfl,rfl⟩
theorem AG (w:World):
  Calls Tryz.prog 127 #[.slice none 0 0] w fun e w'=>e= .returned (.slice none 0 0)∧w=w':=by
 have hq:=fun w=>run_eql_slice_nil (P:=Tryz.prog) w 40 5 none 0 0 Tryz.underlying40;go_enter Tryz.func127,Tryz.ntmps127;go_wp2;go_ret;exact⟨rfl,rfl⟩
theorem DF (a:Addr) (c:Nat) (w:World) (M:Nat→Prop) (l:List UInt8) (h:By w M (some a) l.length l) (hl:l.length≤90000000):
  Calls Tryz.prog 127 #[.slice (some a) l.length c] w fun e w'=>∃g cap,e= .returned (.slice (some ⟨g,0,none⟩) l.length cap)∧l.length≤cap∧w.heap.size≤g∧U8 w' g∧By w' (· <w.heap.size) (some ⟨g,0,none⟩) l.length l∧Below w.heap.size w w':=by
 have H:=aa h;clear h;have hq:=fun w=>run_eql_slice_nil (P:=Tryz.prog) w 40 5 (some a) l.length c Tryz.underlying40;go_enter Tryz.func127,Tryz.ntmps127;have hrow:(w.alloc (.cells #[] 5)).ownsRow w.heap.size 5 1 (.slice (some ⟨w.heap.size,0,none⟩) 0 0) 0 (dy []):=World.ownsRow_made w #[] 0 (aj _) (Nat.zero_le _) rfl;go_wp2_with (refine aU rfl _ _ rfl w.heap.size (.slice (some ⟨w.heap.size,0,none⟩) 0 0) 0 [] rfl hrow M (some a) l.length c l rfl (H.out.alloc _) (by omega) (by simp) ?_);intro v' w' hown hg hat hnil;have hb:Below w.heap.size w w':=((ai _ _).alloc (aj _) _).grown hg (by simp) (fun k e=>by cases e;exact aj _);rcases hown.2 with⟨rfl,_⟩|⟨g,cap,cur,rfl,hbase,hbk,h1,h2,h3,h4⟩
 ·exact(hnil rfl).elim
 ·obtain⟨A',c',e,hc',hby⟩:=kf hown (M:=(· <w.heap.size)) (fun k hk=>hk);injection e with e1 e2 e3;subst e1 e3;have SZ:=aa hby
  have HB:=aa hb;have z7:U8 w' g:=⟨(ah hbk).1,cur,(),hbk⟩;clear hown hg hat hnil hby hb hbk h3 h4 hq hrow;go_wp2_with fail;go_ret;exact⟨g,cap,rfl,h1,hbase,z7,SZ.out,HB.out⟩
theorem tD (v:Value) (l:List UInt8) (w:World) (M:Nat→Prop) (h:Sl w M v l) (hl:l.length≤90000000):
  Calls Tryz.prog 96 #[v] w fun e w'=>∃v',e= .returned v'∧cE w' (· <w.heap.size) v' l∧Below w.heap.size w w':=by
 have key:∀(a:Addr) (c:Nat),l.length≤c→By w M (some a) l.length l→Calls Tryz.prog 96 #[.slice (some a) l.length c] w fun e w'=>∃v',e= .returned v'∧cE w' (· <w.heap.size) v' l∧Below w.heap.size w w':=by
  intro a c h0 h3;have H:=aa h3;clear h3 h;go_enter Tryz.func96,Tryz.ntmps96;go_wp2_with fail;refine(DF a c _ M l H.out hl).mono ?_;rintro e w1 ⟨g,cap,rfl,hc,hg,hg2,hby,hb⟩;have SZ:=aa hby
  have HB:=aa hb;clear hby hb;go_wp2_with fail;refine(DC _ _ _ _ hc).mono ?_;rintro e w2 ⟨rfl,rfl⟩;go_wp2_with fail;go_ret;exact⟨_,rfl, .inr ⟨g,0,rfl,by unfold maxLen;omega,hg2,by show¬_<_;omega,SZ.out⟩,HB.out⟩
 rcases h with⟨_|a,rfl,rfl⟩|⟨b,o,c,rfl,h0,h2,h3⟩
 ·clear key;go_enter Tryz.func96,Tryz.ntmps96;go_wp2_with fail;refine(AG _).mono ?_;rintro e w0 ⟨rfl,rfl⟩;go_wp2_with fail;refine(DD _).mono ?_;rintro e w0 ⟨rfl,rfl⟩;go_wp2_with fail;go_ret;exact⟨_,rfl,cE.iF,ai _ _⟩
 ·exact key a 0 (aj _) By.iF
 ·exact key _ c h0 h3
theorem AH (l:List UInt8) (k:Nat) (h:k<l.length):l.take (k+1)=l.take k++[l[k]]:=List.take_succ_eq_append_getElem h
theorem F8 (s:Nat) (x:UInt8) (hs:s<4294967296):(bits BinOp.xor IntKind.u32 (s:Int) ((x.toNat:Int)%4294967296)*16777619%4294967296)=((J.mM s x:Nat):Int):=by
 have hx:=x.toNat_lt;have e:((x.toNat:Int)%4294967296)=((x.toNat:Nat):Int):=by omega
 rw[e,u32_xor_nat _ _ hs (by omega)];unfold J.mM;rw[Int.natCast_emod,Int.natCast_mul];rfl
theorem DG (A:Option Addr) (n c:Nat) (l:List UInt8) (w:World) (M:Nat→Prop) (h:By w M A n l) (hn:n≤90000000):
  Calls Tryz.prog 117 #[.slice A n c] w fun e w'=>e= .returned (.int .u32 (J.cB l:Nat))∧w=w':=by
 have H:=aa h;have hl:l.length=n:=h.1;clear h;go_enter Tryz.func117,Tryz.ntmps117;go_wp2;go_loop [3,8] (fun s i=>∃k:Nat,k≤n∧i= .int .i64 k∧s= .int .u32 (J.cB (l.take k):Nat)) (fun _ i=>n - (intOf i).toNat)
 case atStart=>exact⟨0,Nat.zero_le _,rfl,rfl⟩
 case round=>
  obtain⟨k,hk,rfl,rfl⟩:=hrel;by_cases hlt:k<n
  ·obtain⟨b,o,rfl,hb,_,hc⟩:=H.out.cell hlt;have fR:k<l.length:=(by omega);have HS:=aa (AH l k fR);have HC:=aa (J.FO (l.take k) l[k]);have HX:=aa (F8 (J.cB (l.take k)) l[k] (J.Au _));go_wp2;go_round
   case rel=>exact⟨k+1,by omega,by go_num,by rw[HS.out,HC.out,HX.out]⟩
   case measure=>simp[intOf];omega
  ·go_wp2;go_ret;exact⟨by rw[List.take_of_length_le (by omega)];rfl,rfl⟩
def Loc (w:World) (v v':Value):Prop:=v'.ownBlock=v.ownBlock∨∃g,v'.ownBlock=some g∧w.heap.size≤g
theorem AJ {a b c:World} {v v':Value} (h:a.grownBy b v.ownBlock) (k:b.grownBy c v'.ownBlock) (hl:Loc a v v'):a.grownBy c v.ownBlock:=
 ⟨k.os.trans h.os,k.tape.trans h.tape,k.output.trans h.output,au h.size k.size,fun i hi hn=>(k.block i (aq hi h.size) (fun e=>by
  rcases hl with hl|⟨g,hg,sN⟩
  ·exact hn (e.trans hl)
  ·rw[hg]at e;injection e with e;omega)).trans (h.block i hi hn)⟩
theorem uW {a c:World} {o:Obj} {r:Option Nat} (k:(a.alloc o).grownBy c r) (hr:r≠some a.heap.size∨True):a.grownBy c r:=by
 have _:=hr;exact⟨k.os,k.tape,k.output,au (by simp) k.size,fun i hi hn=>(k.block i (by simp;omega) hn).trans (Below.heap_alloc a o i hi)⟩
theorem oD (v:Value) (n:Nat) (xs:List UInt8) (x:Nat) (many base:Nat) (w:World) (h:w.ownsRow base 5 1 v n (dy xs)) (hbase:base≤w.heap.size) (hx:x<18446744073709551616) (hm:many≤8) (hn:n≤90000000):
  Calls Tryz.prog 143 #[v, .int .u64 x, .int .i64 many] w fun e w'=>∃v',e= .returned v'∧w'.ownsRow base 5 1 v' (n+many) (dy (xs++J.leB x many))∧w.grownBy w' v.ownBlock∧Loc w v v':=by
 go_enter Tryz.func143,Tryz.ntmps143;go_wp2;go_loopw [0,9] (fun s i wr=>∃k:Nat,k≤many∧i= .int .i64 k∧wr.ownsRow base 5 1 s (n+k) (dy (xs++J.leB x k))∧w.grownBy wr v.ownBlock∧Loc w v s) (fun _ i _=>many - (intOf i).toNat)
 case atStart=>exact⟨0,Nat.zero_le _,rfl,by simpa [J.leB] using h,World.grownBy.refl w _, .inl rfl⟩
 case round=>
  obtain⟨k,hk,rfl,hown,hgr,hloc⟩:=hrel;have HO:=aa hown;have HG:=aa hgr;have HL:=aa hloc;clear hown hgr hloc;by_cases hlt:k<many
  ·have hby:∀W:World,By (W.alloc (.cells #[.int .u8 ((x:Int)/2^(8*k)%256)] 5)) bL (some ⟨W.heap.size,0,none⟩) 1 [UInt8.ofNat (x/256^k)]:=fun W=>⟨rfl,fun _=>⟨W.heap.size,0,rfl,by simp,fun h=>h,fun j hj=>by
    obtain rfl:j=0:=(by simpa using hj);rw[Nat.zero_add];refine(World.cell?_alloc_new _ _ _ _).trans ?_;show some _=some (u8 _)
    congr 1
    show Value.int .u8 _=Value.int .u8 _
    congr 1
    show _=((UInt8.ofNat (x/256^k)).toNat:Int);rw[UInt8.toNat_ofNat',show(256:Nat)^k=2^(8*k) by rw[show(256:Nat)=2^8 by decide,←Nat.pow_mul],Int.natCast_emod,Int.natCast_ediv,Int.natCast_pow];rfl⟩⟩
   have HY:=aa hby
   clear hby
   go_wp2_with (at_builtin;refine aU rfl _ _ rfl base _ (n+k) (xs++J.leB x k) rfl (HO.out.alloc _) bL (some ⟨wr.heap.size,0,none⟩) 1 1 [UInt8.ofNat (x/256^k)] rfl (HY.out _) (by omega) (by have:=HG.out.size;simp;omega) ?_);intro v' w' hown hg hat hnil;have kx:=aa hown;have hg2:=AJ HG.out (uW hg (.inr trivial)) HL.out;have R6:=aa hg2;have hsz:=HG.out.size;have hl2:Loc w v v':=by
    rcases hat with e|e
    ·rcases HL.out with h|⟨g,h,h2⟩
     ·exact .inl (e.trans h)
     ·exact .inr ⟨g,e.trans h,h2⟩
    ·exact .inr ⟨_,e,by first|omega|(simp;omega)⟩
   have Pt:=aa hl2;clear hown hg hat hnil hg2 hl2;go_wp2_with fail;go_roundw
   case rel=>exact⟨k+1,by omega,by go_num,by rw[J.xZ,←Nat.add_assoc];exact kx.out,R6.out,Pt.out⟩
   case measure=>simp[intOf];omega
  ·obtain rfl:k=many:=(by omega);go_wp2;go_ret;exact⟨_,rfl,HO.out,HG.out,HL.out⟩
end Go.Proofs.YtipljcmmokaokaaGreat
namespace Go.Proofs.YtipljcmmokaokaaGreat
open Go.RowKit Go.Lib
set_option maxRecDepth 100000
theorem wpList_append_run {P:Program} {w:World} {ops:Array Oper} {rest:List Oper} {o:Oper} {a:Act} {Q:Exit→Act→World→Prop} (hgd:o.guard=none) (s x:Operand) (t u:TypeId)
  (ho:o.op= .call {callee:= .builtin .append,args:=#[s,x],argTypes:=#[t,u]}) (v1 v2:Value) (hs:a.eval s=v1) (hx:a.eval x=v2) (v':Value) (w':World)
  (hrun:(Builtin.append_ #[t,u] o.type #[v1,v2]).run P w= .ok v' w') (h:wpList P ops Q rest (a.put o.dst v') w'):wpList P ops Q (o::rest) a w:=by
 refine wpList_plain hgd fun K hK=> ?_;unfold Oper.wp execOp;simp only[ho,resolve,invoke,builtin,Sem.run_bind,Sem.run_pure,Result.andThen_ok,List.map_toArray,List.map_cons,List.map_nil,hs,hx,hrun];exact hK _ _ h
theorem DI (n:Nat) (w:World) (hn:n≤90000000):
  Calls Tryz.prog 139 #[.slice none 0 0, .int .i64 n] w fun e w'=>∃v',e= .returned v'∧w'.ownsRow w.heap.size 5 1 v' 0 (dy [])∧Below w.heap.size w w':=by
 obtain⟨i0,AD,hz0,hz1,hz2⟩:=info_parts Tryz.CS;rcases Nat.eq_zero_or_pos n with h0|h0
 ·subst h0;go_enter Tryz.func139,Tryz.ntmps139;go_wp2;go_ret;exact⟨_,rfl,World.ownsRow_nil _ _ _ _,ai _ _⟩
 ·have S3:∀ty,(Builtin.append_ #[40,3] ty #[.slice none 0 0, .int .i64 (n:Int)]).run Tryz.prog w=
    .ok (.slice (some ⟨w.heap.size,0,none⟩) n (grownCap w n 0 5)) (w.drew.alloc (.cells (Builtin.zeroCells (Value.int .u8 0).cells n++Builtin.zeroCells (Value.int .u8 0).cells (grownCap w n 0 5 - n)) 5)):=fun ty=>by
   have h:=Lib.run_append_grow_zeros (P:=Tryz.prog) w 40 3 ty 5 i0 (.int .u8 0) .i64 .i64 Tryz.underlying40 Tryz.underlying3 AD hz0 none 0 0 [] (run_firstCells_none w.drew i0.size 0 0 0) n (by omega) (by omega) (by omega) (by omega)
    (by rw[hz2];omega) (by rw[hz2];exact growslice_fits (by omega) (by omega))
   simpa using h
  have hG:=grownCap_ge w n 0 5;have R7:=grownCap_le_maxLen w n 0 5 (by unfold maxLen;omega);have hrow:∀C:Nat,n≤C→C≤maxLen→(w.drew.alloc (.cells (Builtin.zeroCells (Value.int .u8 0).cells n++Builtin.zeroCells (Value.int .u8 0).cells (C - n)) 5)).ownsRow w.heap.size 5 1 (.slice (some ⟨w.heap.size,0,none⟩) 0 C) 0 (dy []):=by
   intro C h1 h2;refine World.ownsRow_made w.drew _ C (aj _) h2 ?_;rw[Array.size_append,size_zeroCells,size_zeroCells];show n*1+(C - n)*1=C*1;omega
  generalize grownCap w n 0 5=C at S3 hG R7;have HR:=aa (hrow C hG R7);have HZ:=aa S3;clear S3;have hC:(C:Int)≤9223372036854775807:=(by unfold maxLen at R7;omega);have h1:(0:Int)<(n:Int):=(by omega);clear hrow R7;go_enter Tryz.func139,Tryz.ntmps139;go_wp2_with (at_builtin;refine wpList_append_run rfl _ _ 40 3 rfl (.slice none 0 0) (.int .i64 (n:Int)) rfl rfl _ _ (HZ.out _) ?_);go_wp2_with fail;go_ret;exact⟨_,rfl,HR.out,((ai _ _).drew).alloc (aj _) _⟩
def AK (l0 l1:List UInt8):Nat→List UInt8|0=>[]|1=>l0|_=>l0++l1
theorem rL (b:Nat) (A0 A1:Option Addr) (n0 n1 c0 c1:Nat) (l0 l1:List UInt8) (w:World) (M0 M1:Nat→Prop) (hb:b<w.heap.size) (h0:w.cell? ⟨b,0,none⟩=some (.slice A0 n0 c0)) (h1:w.cell? ⟨b,1,none⟩=some (.slice A1 n1 c1))
  (OV:By w M0 A0 n0 l0) (J3:By w M1 A1 n1 l1) (CT:n0≤40000000) (F9:n1≤40000000):
  Calls Tryz.prog 115 #[.slice (some ⟨b,0,none⟩) 2 2] w fun e w'=>∃v',e= .returned v'∧w'.ownsRow w.heap.size 5 1 v' (n0+n1) (dy (l0++l1))∧Below w.heap.size w w':=by
 have H0:=aa h0;have H1:=aa h1;have XI:=aa OV;have Ga:=aa J3;have e0:l0.length=n0:=OV.1;have e1:l1.length=n1:=J3.1;clear h0 h1 OV J3;go_enter Tryz.func115,Tryz.ntmps115;go_wp2;go_loop [3,11] (fun s i=>∃k:Nat,k≤2∧i= .int .i64 k∧s= .int .i64 ((AK l0 l1 k).length:Nat)) (fun _ i=>2 - (intOf i).toNat)
 case atStart=>exact⟨0,Nat.zero_le _,rfl,rfl⟩
 case round=>
  obtain⟨k,hk,rfl,rfl⟩:=hrel;rcases(show k=0∨k=1∨k=2 by omega)with rfl|rfl|rfl
  ·have hc:=H0.out;have hl:(AK l0 l1 0).length=0:=rfl;rw[hl];clear hl;go_wp2;go_round
   case rel=>exact⟨1,by omega,by go_num,by show _=Value.int .i64 ((l0.length:Nat):Int);rw[e0]⟩
   case measure=>simp[intOf]
  ·have hc:=H1.out;have hl:(AK l0 l1 1).length=n0:=e0;have HL:=aa hl;rw[hl];clear hl;go_wp2;go_round
   case rel=>exact⟨2,by omega,by go_num,by show _=Value.int .i64 (((l0++l1).length:Nat):Int);rw[List.length_append,e0,e1];go_num⟩
   case measure=>simp[intOf]
  ·have hl:(AK l0 l1 2).length=n0+n1:=(by show(l0++l1).length=_;rw[List.length_append,e0,e1]);rw[hl];clear hl;go_wp2_with fail;have hg:=DI (n0+n1) w (by omega);rw[Int.natCast_add]at hg;refine hg.mono ?_;rintro e w1 ⟨v',rfl,hown,q7⟩;have HB:=aa q7;have HO:=aa hown;clear hown q7 hg;go_wp2;go_loopw [6,27] (fun s i wr=>∃k:Nat,k≤2∧i= .int .i64 k∧wr.ownsRow w.heap.size 5 1 s (AK l0 l1 k).length (dy (AK l0 l1 k))∧Below w.heap.size w wr) (fun _ i _=>2 - (intOf i).toNat)
   case atStart=>exact⟨0,Nat.zero_le _,rfl,HO.out,HB.out⟩
   case round=>
    obtain⟨k,hk,rfl,hown,q7⟩:=hrel;have qL:=aa q7;have HOW:=aa hown;clear hown q7;rcases(show k=0∨k=1∨k=2 by omega)with rfl|rfl|rfl
    ·have hc:=(qL.out.cell (p:=⟨b,0,none⟩) hb).trans H0.out;go_wp2_with (at_builtin;refine aU rfl _ _ rfl w.heap.size _ 0 [] rfl HOW.out M0 A0 n0 c0 l0 rfl (XI.out.below qL.out) (by omega) qL.out.size ?_);intro v' w' hown hg hat hnil;have kx:=aa hown;have bB:=aa (qL.out.grown hg qL.out.size (fun j hj=>(HOW.out.lt j hj).1));clear hown hg hat hnil;go_wp2_with fail;go_roundw
     case rel=>exact⟨1,by omega,by go_num,by show World.ownsRow _ _ _ _ _ l0.length (dy l0);rw[e0];exact kx.out,bB.out⟩
     case measure=>simp[intOf]
    ·have hc:=(qL.out.cell (p:=⟨b,1,none⟩) hb).trans H1.out;go_wp2_with (at_builtin;refine aU rfl _ _ rfl w.heap.size _ l0.length l0 rfl HOW.out M1 A1 n1 c1 l1 rfl (Ga.out.below qL.out) (by omega) qL.out.size ?_);intro v' w' hown hg hat hnil;have kx:=aa hown;have bB:=aa (qL.out.grown hg qL.out.size (fun j hj=>(HOW.out.lt j hj).1));clear hown hg hat hnil;go_wp2_with fail;go_roundw
     case rel=>exact⟨2,by omega,by go_num,by show World.ownsRow _ _ _ _ _ (l0++l1).length (dy (l0++l1));rw[List.length_append,e0,e1];exact kx.out,bB.out⟩
     case measure=>simp[intOf]
    ·go_wp2;go_ret;exact⟨_,rfl,by have:(AK l0 l1 2).length=n0+n1:=by {show(l0++l1).length=_;rw[List.length_append,e0,e1]};have h2:=HOW.out;rw[this]at h2;exact h2,qL.out⟩
theorem nR (A0 A1:Option Addr) (n0 n1 c0 c1:Nat) (l0 l1:List UInt8) (w:World) (M0 M1:Nat→Prop) (OV:By w M0 A0 n0 l0) (J3:By w M1 A1 n1 l1):
  Calls Tryz.prog 43 #[.slice A0 n0 c0, .slice A1 n1 c1] w fun e w'=>e= .returned (.bool (l0==l1))∧w=w':=by
 have hc:∀(A:Option Addr) (n c:Nat) (l:List UInt8) (M:Nat→Prop),By w M A n l→(convert 40 9 (.slice A n c)).run Tryz.prog w= .ok (.string ⟨l.toArray⟩) w:=by
  intro A n c l M h;rcases Nat.eq_zero_or_pos n with h0|h0
  ·subst h0;obtain rfl:l=[]:=List.eq_nil_of_length_eq_zero h.1;rw[run_convert_bytes_string w 40 9 5 A 0 c Tryz.underlying40 Tryz.underlying5 Tryz.underlying9];cases A<;>rfl
  ·obtain⟨ad,rfl,_,_,cA⟩:=h.at_ h0;have e:=h.1;subst e;exact run_convert_bytes_back w 40 9 5 ad c l Tryz.underlying40 Tryz.underlying5 Tryz.underlying9 cA
 have Zu:=hc A0 n0 c0 l0 M0 OV;have Pu:=hc A1 n1 c1 l1 M1 J3;clear hc OV J3;go_enter Tryz.func43,Tryz.ntmps43;go_wp2;go_ret;exact⟨rfl,rfl⟩
end Go.Proofs.YtipljcmmokaokaaGreat
namespace Go.Proofs.YtipljcmmokaokaaGreat
open Go.RowKit
set_option maxRecDepth 100000
section
variable {P : Program} {w : World}
theorem lW (g:Nat) (t:TypeId) (fr:Nat×Nat):∀(vs:List Value) (o:Nat) (w:World) (C:Array Value),w.heap[g]? =some (.cells C t fr)→
  ∃C',(w.setCells g o vs).heap[g]? =some (.cells C' t fr)∧C'.size=C.size
 |[],_,_,C,h=>⟨C,h,rfl⟩
 |v::r,o,w,C,h=>by
  have h1:(w.setCell ⟨g,o,none⟩ v).heap[g]? =some (.cells (C.setIfInBounds o v) t fr):=by
   simp only[World.setCell,Array.getElem?_modify,h];simp
  obtain⟨C',h2,h3⟩:=lW g t fr r (o+1) _ _ h1;exact⟨C',h2,by simpa using h3⟩
theorem kg (g:Nat):∀(vs:List Value) (o:Nat) (w:World),w.grownBy (w.setCells g o vs) (some g)∧(w.setCells g o vs).heap.size=w.heap.size
 |[],_,_=>⟨⟨rfl,rfl,rfl,aj _,fun _ _ _=>rfl⟩,rfl⟩
 |v::r,o,w=>by
  have⟨h1,h2⟩:=kg g r (o+1) (w.setCell ⟨g,o,none⟩ v);have hs:(w.setCell ⟨g,o,none⟩ v).heap.size=w.heap.size:=(by simp[World.setCell]);refine⟨⟨h1.os,h1.tape,h1.output,by have:=h1.size;rw[hs]at this;exact this,fun k hk hn=> ?_⟩,h2.trans hs⟩;exact(h1.block k (by omega) hn).trans (Below.heap_setCell w _ v k (by intro e;exact hn (by rw[e])))
theorem wpList_store_row {ops:Array Oper} {rest:List Oper} {o:Oper} {a:Act} {Q:Exit→Act→World→Prop}
  (hgd:Region.wanted o (yielded ops a.tmps)=true) (x y:Operand) (ty:TypeId) (hop:o.op=Op.store ty x y) (g:Nat) (hx:a.eval x= .pointer (some ⟨g,0,none⟩)) (vs:List Value) (hy:a.eval y= .agg vs.toArray)
  (t:TypeId) (C:Array Value) (hg:w.heap[g]? =some (.cells C t (0,0))) (hC:C.size=vs.length) (hi:(P.info? ty).map (·.size)=some vs.length) (h1:(vs.all fun v=>v.oneCell')=true)
  (hK:∀w',w'.heap[g]? =some (.cells vs.toArray t (0,0))→w.grownBy w' (some g)→w'.heap.size=w.heap.size→wpList P ops Q rest (a.put o.dst undef) w'):
  wpList P ops Q (o::rest) a w:=by
 refine wpList_want hgd fun K' hK'=> ?_;have hcell:∀j,w.cell? ⟨g,j,none⟩=C[j]? :=fun j=>ag w g j C t (0,0) hg;have hst:=run_storeCells_cells (P:=P) g 0 vs 0 w (fun j hj=>by rw[hcell];simp[hC];omega) (fun j _=>by simp[World.frozen?,hg]) (fun v hv=>List.all_eq_true.1 h1 v hv);have hrun:(Instr.storeAt ty (.pointer (some ⟨g,0,none⟩)) (.agg vs.toArray)).run P w= .ok () (w.setCells g 0 vs):=by
  cases hq:P.info? ty with
  |none=>simp[hq]at hi
  |some i=>
   have hs:i.size=vs.length:=(by simpa [hq] using hi);simp[Instr.storeAt,Instr.sureAddr,storeVar,Sem.run_bind,sizeOf,typeInfo,hq,hs,Value.cells]
   simpa using hst
 obtain⟨C',Pv,XJ⟩:=lW g t (0,0) vs 0 w C hg;have S6:C'=vs.toArray:=by
  apply Array.ext_getElem?;intro j;have e:=ag (w.setCells g 0 vs) g j C' t (0,0) Pv;rw[←e];by_cases hj:j<vs.length
  ·have:=World.cell?_setCells_in g vs 0 w (fun j hj=>by rw[Nat.zero_add,hcell];simp[hC];omega) j hj;rw[Nat.zero_add]at this;rw[this];simp[hj]
  ·rw[e,Array.getElem?_eq_none (by omega)];simp;omega
 subst S6;have hb:=kg g vs 0 w;unfold Oper.wp;simp only[execOp,hop,hx,hy];have:=hK' _ _ (hK _ Pv hb.1 hb.2);simp only[Sem.run_bind,hrun,Result.andThen];exact this
theorem nD {fn:Func} {p u:Tmp} {ty:TypeId} (h:fn.results=#[.cell p ty, .tmp u]) (tmps:Array Value) (w:World) (g:Nat) (t:TypeId) (cs:Array Value) (fr:Nat×Nat) (d:TypeDesc)
  (hp:tmps.getD p undef= .pointer (some ⟨g,0,none⟩)) (hg:w.heap[g]? =some (.cells cs t fr))
  (hu:P.underlying ty=some d) (hd:(match d with| .struct _| .array _ _=>true|_=>false)=true) (hi:(P.info? ty).map (·.size)=some cs.size):
  (results fn tmps).run P w= .ok (.tuple #[.agg cs,tmps.getD u undef]) w:=by
 rw[results_cell_tmp h];simp[hp,asAddr,Result.andThen,Sem.run_pure,run_loadVar_row w g t ty cs fr d hg hu hd hi]
end
end Go.Proofs.YtipljcmmokaokaaGreat
