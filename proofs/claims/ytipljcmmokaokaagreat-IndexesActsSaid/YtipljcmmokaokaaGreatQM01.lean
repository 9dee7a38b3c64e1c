import Derived.Test.YtipljcmmokaokaaGreatQM00
import Derived.Lib.Strings
import Derived.Laws.OwnMore
import Derived.Deep.AppendLies
import Derived.Deep.Draws
import Derived.Maps.AppendAt
import Derived.RegionTactic
import Derived.OwnWalk
import Derived.Lib.AppendStr
import Derived.Outline
import Derived.Lib.LazyBuf
import Derived.Laws.BitsAllLaws
import Derived.Lib.AppendZerosOnto
import Derived.Lib.SliceRun
import Derived.Test.YtipljcmmokaokaaGreatQA
set_option linter.unusedVariables false
set_option linter.unusedSimpArgs false
set_option maxHeartbeats 1000000
namespace Go.Proofs.YtipljcmmokaokaaGreat
namespace X
abbrev B:=J.B
theorem mA:∀(a b:List B),a.Pairwise (· < ·)→b.Pairwise (· < ·)→(∀x,x∈a↔x∈b)→a=b
 |[],[],_,_,_=>rfl
 |[],y::t,_,_,h=>by have:=(h y).2 af;cases this
 |x::t,[],_,_,h=>by have:=(h x).1 af;cases this
 |x::s,y::t,ha,hb,h=>by
  obtain⟨ha1,ha2⟩:=List.pairwise_cons.1 ha;obtain⟨hb1,hb2⟩:=List.pairwise_cons.1 hb;have e:x=y:=by
   rcases au ((h x).1 af)with e|e
   ·exact e
   ·rcases au ((h y).2 af)with e2|e2
    ·exact e2.symm
    ·exact absurd (ha1 y e2) (List.lt_asymm (hb1 x e))
  subst e
  congr 1
  refine mA s t ha2 hb2 (λz=>⟨λhz=> ?_,λhz=> ?_⟩)
  ·rcases au ((h z).1 (ag _ hz))with e|e
   ·subst e;exact absurd (ha1 z hz) (List.lt_irrefl z)
   ·exact e
  ·rcases au ((h z).2 (ag _ hz))with e|e
   ·subst e;exact absurd (hb1 z hz) (List.lt_irrefl z)
   ·exact e
theorem Fe:∀(p q s t:B),p.length=q.length→(p++s<q++t↔p<q∨p=q∧s<t)
 |[],[],s,t,_=>by simp[List.lt_irrefl]
 |[],_::_,_,_,h=>by cases h
 |_::_,[],_,_,h=>by cases h
 |a::p,b::q,s,t,h=>by
  have ih:=Fe p q s t (by simpa using h);rw[List.cons_append,List.cons_append,R.my,R.my,ih];by_cases e:a=b
  ·subst e;have:¬a<a:=(by simp);simp[this]
  ·simp[e]
def own (nm:B):B:=nm++[0,65]
def cK (nm:B):B:=nm++[0,67]
def pre (nm:B) (i:Nat):B:=if i=0 then nm++[0,80]else nm++[0,75,UInt8.ofNat i]
def tail (i:Nat) (p:B) (t:Nat):B:=if i=0 then p else p++R.bI t
def bS (nm:B) (i:Nat) (p:B) (t:Nat):B:=pre nm i++tail i p t
theorem mz (nm:B):(own nm).length=nm.length+2:=by simp[own]
theorem ru (nm:B):(cK nm).length=nm.length+2:=by simp[cK]
theorem gU (nm:B) (i:Nat):(pre nm i).length≤nm.length+3:=by unfold pre;split<;>simp
theorem JX (nm:B):(pre nm 0).length=nm.length+2:=by simp[pre]
theorem JY (i:Nat) (p:B) (t:Nat):(tail i p t).length≤p.length+4:=by
 unfold tail;split
 ·omega
 ·rw[List.length_append,R.dc];exact aq _
theorem cR (nm:B) (i:Nat) (p:B) (t:Nat):(bS nm i p t).length≤nm.length+p.length+7:=by
 unfold bS;rw[List.length_append];have:=gU nm i;have:=JY i p t;omega
theorem tV (nm:B):own nm≠cK nm:=λe=>by
 have:=List.append_cancel_left e;cases this
theorem fZ (nm:B) (i:Nat):∃a x,pre nm i=nm++0::a::x∧(a=80∨a=75)∧(i=0↔a=80):=by
 unfold pre;split
 ·rename_i h;exact⟨80,[],rfl, .inl rfl,by simp[h]⟩
 ·rename_i h;exact⟨75,[UInt8.ofNat i],rfl, .inr rfl,by simp[h]⟩
theorem fh (nm:B) (i:Nat) (p:B) (t:Nat):own nm≠bS nm i p t:=λe=>by
 obtain⟨a,x,h,ha,_⟩:=fZ nm i;unfold own bS at e;rw[h,List.append_assoc]at e;have:=List.append_cancel_left e;simp only[List.cons_append,List.cons.injEq,true_and]at this;rcases ha with rfl|rfl<;>exact absurd this.1 (by decide)
theorem iv (nm:B) (i:Nat) (p:B) (t:Nat):cK nm≠bS nm i p t:=λe=>by
 obtain⟨a,x,h,ha,_⟩:=fZ nm i;unfold cK bS at e;rw[h,List.append_assoc]at e;have:=List.append_cancel_left e;simp only[List.cons_append,List.cons.injEq,true_and]at this;rcases ha with rfl|rfl<;>exact absurd this.1 (by decide)
theorem mB {nm x y:B} {i j:Nat} (hi:i<256) (hj:j<256) (h:pre nm i++x=pre nm j++y):i=j:=by
 obtain⟨a,u,h1,h2,h3⟩:=fZ nm i;obtain⟨b,v,k1,k2,k3⟩:=fZ nm j;by_cases Ff:i=0
 ·have ha:=h3.1 Ff;rw[h1,k1,List.append_assoc,List.append_assoc]at h;have:=List.append_cancel_left h;simp only[List.cons_append,List.cons.injEq,true_and]at this;have:=k3.2 (by rw[←this.1,ha]);omega
 ·by_cases hj0:j=0
  ·have hb:=k3.1 hj0;rw[h1,k1,List.append_assoc,List.append_assoc]at h;have:=List.append_cancel_left h;simp only[List.cons_append,List.cons.injEq,true_and]at this;have:=h3.2 (by rw[this.1,hb]);omega
  ·unfold pre at h;rw[if_neg Ff,if_neg hj0,List.append_assoc,List.append_assoc]at h;have:=List.append_cancel_left h;simp only[List.cons_append,List.cons.injEq,true_and]at this;have:=congrArg UInt8.toNat this.1;rw[UInt8.toNat_ofNat',UInt8.toNat_ofNat']at this;omega
theorem JZ {i:Nat} {p q:B} {t s:Nat} (ht:t<4294967296) (hs:s<4294967296) (hz:i=0→t=s) (h:tail i p t=tail i q s):p=q∧t=s:=by
 unfold tail at h;by_cases hi:i=0
 ·rw[if_pos hi,if_pos hi]at h;exact⟨h,hz hi⟩
 ·rw[if_neg hi,if_neg hi]at h;have hl:p.length=q.length:=(by have:=congrArg List.length h;simpa [R.dc] using this);obtain⟨h1,h2⟩:=List.append_inj h hl;exact⟨h1,R.OV ht hs h2⟩
theorem oC {nm:B} {i j:Nat} {p q:B} {t s:Nat} (hi:i<256) (hj:j<256) (ht:t<4294967296) (hs:s<4294967296) (hz:i=0→t=0) (hz':j=0→s=0) (h:bS nm i p t=bS nm j q s):i=j∧p=q∧t=s:=by
 have e:=mB hi hj h;subst e;exact⟨rfl,JZ ht hs (λh=>by rw[hz h,hz' h]) (List.append_cancel_left h)⟩
theorem Ka {nm:B} {i:Nat} {p q:B} {t s:Nat} (hl:p.length=q.length) (ht:t<4294967296) (hs:s<4294967296) (hz:i=0→t=s):bS nm i p t<bS nm i q s↔p<q∨p=q∧t<s:=by
 unfold bS tail;rw[R.CF];by_cases hi:i=0
 ·have:=hz hi;rw[if_pos hi,if_pos hi];constructor
  ·exactλh=> .inl h
  ·rintro(h|⟨_,h⟩)
   ·exact h
   ·omega
 ·rw[if_neg hi,if_neg hi,Fe _ _ _ _ hl,R.Tf ht hs]
theorem mC (p:B) (x y:B):(p++x).isPrefixOf (p++y)=x.isPrefixOf y:=by
 induction p with
 |nil=>rfl
 |cons a p ih=>simp only[List.cons_append,List.isPrefixOf,ih,beq_self_eq_true,Bool.true_and]
theorem kt {nm:B} {i:Nat} (v:B) {k:B} (h:Lib.hasPrefix k (pre nm i++v)=true):∃x,k=pre nm i++(v++x):=by
 unfold Lib.hasPrefix at h;obtain⟨x,hx⟩:=List.isPrefixOf_iff_prefix.1 h;exact⟨x,by rw[←hx,List.append_assoc]⟩
theorem zG {i:Nat} {p v:B} {t:Nat} (hl:v.length≤p.length):v.isPrefixOf (tail i p t)=decide (p.take v.length=v):=by
 rw[Bool.eq_iff_iff,List.isPrefixOf_iff_prefix,decide_eq_true_eq,List.prefix_iff_eq_take];have e:(tail i p t).take v.length=p.take v.length:=by
  unfold tail;split
  ·rfl
  ·rw[List.take_append_of_le_length hl]
 rw[e];exact eq_comm
theorem dz {nm:B} {i:Nat} {p v:B} {t:Nat} (hl:v.length≤p.length):Lib.hasPrefix (bS nm i p t) (pre nm i++v)=decide (p.take v.length=v):=by
 unfold Lib.hasPrefix bS;rw[mC,zG hl]
theorem pz (nm v:B) (i:Nat):Lib.hasPrefix (own nm) (pre nm i++v)=false:=by
 rw[Bool.eq_false_iff];intro h;obtain⟨x,hx⟩:=kt v h;obtain⟨a,y,h1,ha,_⟩:=fZ nm i;unfold own at hx;rw[h1,List.append_assoc]at hx;have:=List.append_cancel_left hx;simp only[List.cons_append,List.cons.injEq,true_and]at this;rcases ha with rfl|rfl<;>exact absurd this.1 (by decide)
theorem tW (nm v:B) (i:Nat):Lib.hasPrefix (cK nm) (pre nm i++v)=false:=by
 rw[Bool.eq_false_iff];intro h;obtain⟨x,hx⟩:=kt v h;obtain⟨a,y,h1,ha,_⟩:=fZ nm i;unfold cK at hx;rw[h1,List.append_assoc]at hx;have:=List.append_cancel_left hx;simp only[List.cons_append,List.cons.injEq,true_and]at this;rcases ha with rfl|rfl<;>exact absurd this.1 (by decide)
theorem eJ {nm v:B} {i j:Nat} (hi:i<256) (hj:j<256) (rv:i≠j) (p:B) (t:Nat):Lib.hasPrefix (bS nm j p t) (pre nm i++v)=false:=by
 rw[Bool.eq_false_iff];intro h;obtain⟨x,hx⟩:=kt v h;exact rv (mB hj hi hx).symm
structure eP (nm a:B) (n c:Nat) (lens:Nat→Nat) (Pp:B→B→Prop) (Ee:Nat→B→Nat→B→Prop) (now:List (B×B)):Prop where
 asc:J.ri now
 own:J.look now (own nm)=some a
 tim:J.look now (cK nm)=if 0<c then some (R.bI c)else none
 pri:∀p v,J.look now (bS nm 0 p 0)=some v↔Pp p v
 alt:∀i p t q,1≤i→i<n→t<4294967296→(J.look now (bS nm i p t)=some q↔Ee i p t q)
 oth:∀k,J.look now k≠none→k=X.own nm∨k=cK nm∨(∃p,k=bS nm 0 p 0)∨∃i p t,1≤i∧i<n∧t<4294967296∧k=bS nm i p t
 len0:∀p v,Pp p v→p.length=lens 0
 lenE:∀i p t q,Ee i p t q→p.length=lens i
section
variable {nm a : B} {n c : Nat} {lens : Nat → Nat} {Pp : B → B → Prop} {Ee : Nat → B → Nat → B → Prop} {now : List (B × B)}
theorem Kb (nm a:B) (n:Nat) (lens:Nat→Nat):eP nm a n 0 lens (λ_ _=>False) (λ_ _ _ _=>False) (J.ins [] (own nm) a):=by
 refine⟨J.mj J.tq _ _,by rw[J.bU,if_pos rfl], ?_,λp v=> ?_,λi p t q _ _ _=> ?_,λk hk=> ?_,λ_ _ h=>h.elim,λ_ _ _ _ h=>h.elim⟩
 ·rw[J.bU,if_neg (tV nm).symm];rfl
 ·rw[J.bU,if_neg (fh nm 0 p 0).symm];exact⟨(λh=>by cases h),λh=>h.elim⟩
 ·rw[J.bU,if_neg (fh nm i p t).symm];exact⟨(λh=>by cases h),λh=>h.elim⟩
 ·rw[J.bU]at hk;by_cases e:k=X.own nm
  ·exact .inl e
  ·rw[if_neg e]at hk;exact absurd rfl hk
theorem eP.time (h:eP nm a n c lens Pp Ee now) {c':Nat} (hc:0<c'):eP nm a n c' lens Pp Ee (J.ins now (cK nm) (R.bI c')):=by
 refine⟨J.mj h.asc _ _, ?_, ?_,λp v=> ?_,λi p t q h1 h2 h3=> ?_,λk hk=> ?_,h.len0,h.lenE⟩
 ·rw[J.bU,if_neg (tV nm)];exact h.own
 ·rw[J.bU,if_pos rfl,if_pos hc]
 ·rw[J.bU,if_neg (iv nm 0 p 0).symm];exact h.pri p v
 ·rw[J.bU,if_neg (iv nm i p t).symm];exact h.alt i p t q h1 h2 h3
 ·rw[J.bU]at hk;by_cases e:k=cK nm
  ·exact .inr (.inl e)
  ·rw[if_neg e]at hk;exact h.oth k hk
theorem eP.record (h:eP nm a n c lens Pp Ee now) (hn:n≤256) {p0 v0:B} (hl:p0.length=lens 0):eP nm a n c lens (λp v=>(p=p0∧v=v0)∨(p≠p0∧Pp p v)) Ee (J.ins now (bS nm 0 p0 0) v0):=by
 refine⟨J.mj h.asc _ _, ?_, ?_,λp v=> ?_,λi p t q h1 h2 h3=> ?_,λk hk=> ?_,λp v hp=> ?_,h.lenE⟩
 ·rw[J.bU,if_neg (fh nm 0 p0 0)];exact h.own
 ·rw[J.bU,if_neg (iv nm 0 p0 0)];exact h.tim
 ·rw[J.bU];by_cases e:p=p0
  ·subst e;rw[if_pos rfl];constructor
   ·intro hh;injection hh with hh;exact .inl ⟨rfl,hh.symm⟩
   ·rintro(⟨_,rfl⟩|⟨hh,_⟩)
    ·rfl
    ·exact absurd rfl hh
  ·rw[if_neg (λhh=>e (oC (by decide) (by decide) (by decide) (by decide) (λ_=>rfl) (λ_=>rfl) hh).2.1),h.pri p v];constructor
   ·exactλhh=> .inr ⟨e,hh⟩
   ·rintro(⟨hh,_⟩|⟨_,hh⟩)
    ·exact absurd hh e
    ·exact hh
 ·rw[J.bU,if_neg (λhh=>by have:=mB (by omega) (by omega) hh;omega)];exact h.alt i p t q h1 h2 h3
 ·rw[J.bU]at hk;by_cases e:k=bS nm 0 p0 0
  ·exact .inr (.inr (.inl ⟨p0,e⟩))
  ·rw[if_neg e]at hk;exact h.oth k hk
 ·rcases hp with⟨rfl,_⟩|⟨_,hp⟩
  ·exact hl
  ·exact h.len0 p v hp
theorem eP.Kc (h:eP nm a n c lens Pp Ee now) (hn:n≤256) (p0:B):eP nm a n c lens (λp v=>p≠p0∧Pp p v) Ee (J.del now (bS nm 0 p0 0)):=by
 refine⟨J.oA h.asc _, ?_, ?_,λp v=> ?_,λi p t q h1 h2 h3=> ?_,λk hk=> ?_,λp v hp=>h.len0 p v hp.2,h.lenE⟩
 ·rw[J.bR,if_neg (fh nm 0 p0 0)];exact h.own
 ·rw[J.bR,if_neg (iv nm 0 p0 0)];exact h.tim
 ·rw[J.bR];by_cases e:p=p0
  ·subst e;rw[if_pos rfl];exact⟨(λhh=>by cases hh),λhh=>absurd rfl hh.1⟩
  ·rw[if_neg (λhh=>e (oC (by decide) (by decide) (by decide) (by decide) (λ_=>rfl) (λ_=>rfl) hh).2.1),h.pri p v];exact⟨λhh=>⟨e,hh⟩,λhh=>hh.2⟩
 ·rw[J.bR,if_neg (λhh=>by have:=mB (by omega) (by omega) hh;omega)];exact h.alt i p t q h1 h2 h3
 ·rw[J.bR]at hk;by_cases e:k=bS nm 0 p0 0
  ·rw[if_pos e]at hk;exact absurd rfl hk
  ·rw[if_neg e]at hk;exact h.oth k hk
theorem eP.entry (h:eP nm a n c lens Pp Ee now) (hn:n≤256) {i0:Nat} (hi:1≤i0∧i0<n) {p0 q0:B} {t0:Nat} (ht:t0<4294967296) (hl:p0.length=lens i0):
  eP nm a n c lens Pp (λi p t q=>(i=i0∧p=p0∧t=t0∧q=q0)∨(¬(i=i0∧p=p0∧t=t0)∧Ee i p t q)) (J.ins now (bS nm i0 p0 t0) q0):=by
 refine⟨J.mj h.asc _ _, ?_, ?_,λp v=> ?_,λi p t q h1 h2 h3=> ?_,λk hk=> ?_,h.len0,λi p t q hp=> ?_⟩
 ·rw[J.bU,if_neg (fh nm i0 p0 t0)];exact h.own
 ·rw[J.bU,if_neg (iv nm i0 p0 t0)];exact h.tim
 ·rw[J.bU,if_neg (λhh=>by have:=mB (by omega) (by omega) hh;omega)];exact h.pri p v
 ·rw[J.bU];by_cases e:i=i0∧p=p0∧t=t0
  ·rw[if_pos (by rw[e.1,e.2.1,e.2.2])];constructor
   ·intro hh;injection hh with hh;exact .inl ⟨e.1,e.2.1,e.2.2,hh.symm⟩
   ·rintro(⟨_,_,_,rfl⟩|⟨hh,_⟩)
    ·rfl
    ·exact absurd e hh
  ·rw[if_neg (λhh=>e (oC (by omega) (by omega) h3 ht (λh=>by omega) (λh=>by omega) hh)),h.alt i p t q h1 h2 h3];constructor
   ·exactλhh=> .inr ⟨e,hh⟩
   ·rintro(⟨h1,h2,h3,_⟩|⟨_,hh⟩)
    ·exact absurd ⟨h1,h2,h3⟩ e
    ·exact hh
 ·rw[J.bU]at hk;by_cases e:k=bS nm i0 p0 t0
  ·exact .inr (.inr (.inr ⟨i0,p0,t0,hi.1,hi.2,ht,e⟩))
  ·rw[if_neg e]at hk;exact h.oth k hk
 ·rcases hp with⟨rfl,rfl,_⟩|⟨_,hp⟩
  ·exact hl
  ·exact h.lenE i p t q hp
theorem eP.Fg (h:eP nm a n c lens Pp Ee now) (hn:n≤256) {i0:Nat} (hi:1≤i0∧i0<n) (p0:B) {t0:Nat} (ht:t0<4294967296):
  eP nm a n c lens Pp (λi p t q=>¬(i=i0∧p=p0∧t=t0)∧Ee i p t q) (J.del now (bS nm i0 p0 t0)):=by
 refine⟨J.oA h.asc _, ?_, ?_,λp v=> ?_,λi p t q h1 h2 h3=> ?_,λk hk=> ?_,h.len0,λi p t q hp=>h.lenE i p t q hp.2⟩
 ·rw[J.bR,if_neg (fh nm i0 p0 t0)];exact h.own
 ·rw[J.bR,if_neg (iv nm i0 p0 t0)];exact h.tim
 ·rw[J.bR,if_neg (λhh=>by have:=mB (by omega) (by omega) hh;omega)];exact h.pri p v
 ·rw[J.bR];by_cases e:i=i0∧p=p0∧t=t0
  ·rw[if_pos (by rw[e.1,e.2.1,e.2.2])];exact⟨(λhh=>by cases hh),λhh=>absurd e hh.1⟩
  ·rw[if_neg (λhh=>e (oC (by omega) (by omega) h3 ht (λh=>by omega) (λh=>by omega) hh)),h.alt i p t q h1 h2 h3];exact⟨λhh=>⟨e,hh⟩,λhh=>hh.2⟩
 ·rw[J.bR]at hk;by_cases e:k=bS nm i0 p0 t0
  ·rw[if_pos e]at hk;exact absurd rfl hk
  ·rw[if_neg e]at hk;exact h.oth k hk
theorem eP.same (h:eP nm a n c lens Pp Ee now) {Pp':B→B→Prop} {Ee':Nat→B→Nat→B→Prop} (hp:∀p v,Pp' p v↔Pp p v) (he:∀i p t q,1≤i→i<n→(Ee' i p t q↔Ee i p t q)) (hl:∀i p t q,Ee' i p t q→p.length=lens i):eP nm a n c lens Pp' Ee' now:=
 ⟨h.asc,h.own,h.tim,λp v=>(h.pri p v).trans (hp p v).symm,λi p t q h1 h2 h3=>(h.alt i p t q h1 h2 h3).trans (he i p t q h1 h2).symm,h.oth,λp v hh=>h.len0 p v ((hp p v).1 hh),hl⟩
end
end X
namespace X
structure Ky where
 at_:Nat
 len:Nat
 dup:Bool
structure Row where
 b:B
 ts:List Nat
def Ky.val (k:Ky) (b:B):B:=(b.drop k.at_).take k.len
def aF (ks:List Ky) (i:Nat):Ky:=ks.getD i ⟨0,0,false⟩
def val (ks:List Ky) (i:Nat) (b:B):B:=(aF ks i).val b
def Row.t (r:Row) (i:Nat):Nat:=r.ts.getD i 0
def lens (ks:List Ky) (i:Nat):Nat:=(aF ks i).len
def nk (ks:List Ky) (i:Nat) (x y:Row):Bool:=decide (val ks i x.b<val ks i y.b)||(decide (val ks i x.b=val ks i y.b)&&decide (x.t i<y.t i))
theorem pZ {ks:List Ky} {i:Nat} {x y:Row}:nk ks i x y=true↔val ks i x.b<val ks i y.b∨val ks i x.b=val ks i y.b∧x.t i<y.t i:=by
 unfold nk;simp
theorem wz {ks:List Ky} {i:Nat} {x y z:Row} (h:nk ks i x y=true) (k:nk ks i y z=true):nk ks i x z=true:=by
 rw[pZ]at h k⊢;rcases h with h|⟨h1,h2⟩<;>rcases k with k|⟨k1,k2⟩
 ·exact .inl (List.lt_trans h k)
 ·exact .inl (by rw[←k1];exact h)
 ·exact .inl (by rw[h1];exact k)
 ·exact .inr ⟨h1.trans k1,Nat.lt_trans h2 k2⟩
theorem Gr {ks:List Ky} {i:Nat} {x y:Row} (h:¬nk ks i x y=true) (hd:val ks i x.b≠val ks i y.b∨x.t i≠y.t i):nk ks i y x=true:=by
 rw[pZ]at h⊢;by_cases e:val ks i x.b=val ks i y.b
 ·refine .inr ⟨e.symm, ?_⟩;have h1:¬x.t i<y.t i:=λhh=>h (.inr ⟨e,hh⟩);have h2:x.t i≠y.t i:=hd.resolve_left (λhh=>hh e);omega
 ·exact .inl (J.JQ _ _ (λhh=>h (.inl hh)) e)
def ry (ks:List Ky) (i:Nat) (x:Row):List Row→List Row
 |[]=>[x]
 |y::t=>if nk ks i y x then y::ry ks i x t else x::y::t
def bQ (ks:List Ky) (i:Nat) (rows:List Row):List Row:=rows.foldl (λl x=>ry ks i x l) []
theorem zH (ks:List Ky) (i:Nat) (x z:Row) (l:List Row):z∈ry ks i x l↔z=x∨z∈l:=by
 induction l with
 |nil=>simp[ry]
 |cons y t ih=>
  unfold ry;split
  ·rw[List.mem_cons,ih,List.mem_cons];constructor
   ·rintro(h|h|h)
    ·exact .inr (.inl h)
    ·exact .inl h
    ·exact .inr (.inr h)
   ·rintro(h|h|h)
    ·exact .inr (.inl h)
    ·exact .inl h
    ·exact .inr (.inr h)
  ·rw[List.mem_cons]
theorem Kd (ks:List Ky) (i:Nat) (x:Row) (l:List Row):(ry ks i x l).length=l.length+1:=by
 induction l with
 |nil=>rfl
 |cons y t ih=>
  unfold ry;split
  ·simp[ih]
  ·rfl
theorem OW (ks:List Ky) (i:Nat) (x:Row) (l:List Row):ry ks i x l=l.takeWhile (nk ks i · x)++x::l.dropWhile (nk ks i · x):=by
 induction l with
 |nil=>rfl
 |cons y t ih=>
  unfold ry;rw[List.takeWhile_cons,List.dropWhile_cons];split
  ·rw[ih];rfl
  ·rfl
theorem Ke (ks:List Ky) (i:Nat) (x:Row) (l:List Row) (h:l.Pairwise (nk ks i · ·)) (hd:∀y∈l,val ks i y.b≠val ks i x.b∨y.t i≠x.t i):(ry ks i x l).Pairwise (nk ks i · ·):=by
 induction l with
 |nil=>exact List.pairwise_singleton _ _
 |cons y t ih=>
  obtain⟨h1,h2⟩:=List.pairwise_cons.1 h;unfold ry;split
  ·rename_i hy
   refine List.pairwise_cons.2 ⟨λz hz=> ?_,ih h2 (λz hz=>hd z (ag _ hz))⟩;rcases(zH ks i x z t).1 hz with rfl|hz
   ·exact hy
   ·exact h1 z hz
  ·rename_i hy
   have Gs:=Gr hy (hd y af);refine List.pairwise_cons.2 ⟨λz hz=> ?_,h⟩;rcases au hz with rfl|hz
   ·exact Gs
   ·exact wz Gs (h1 z hz)
theorem qa (ks:List Ky) (i:Nat) (rows:List Row) (x:Row):bQ ks i (rows++[x])=ry ks i x (bQ ks i rows):=by
 unfold bQ;rw[List.foldl_append];rfl
theorem qb {α:Type} {P:List α→Prop} (h0:P []) (h1:∀l x,P l→P (l++[x])):∀l,P l:=by
 intro l;have:∀n (l:List α),l.length=n→P l:=by
  intro n
  induction n with
  |zero=>intro l hl;rw[List.eq_nil_of_length_eq_zero hl];exact h0
  |succ n ih=>
   intro l hl;have hne:l≠[]:=(by intro e;rw[e]at hl;cases hl);rw[←List.dropLast_concat_getLast hne];exact h1 _ _ (ih _ (by rw[List.length_dropLast,hl];rfl))
 exact this _ l rfl
theorem bt (ks:List Ky) (i:Nat) (z:Row) (rows:List Row):z∈bQ ks i rows↔z∈rows:=by
 induction rows using qb with
 |h0=>rfl
 |h1 l x ih=>
  rw[qa,zH,ih,List.mem_append,List.mem_singleton];exact or_comm
theorem qc (ks:List Ky) (i:Nat) (rows:List Row):(bQ ks i rows).length=rows.length:=by
 induction rows using qb with
 |h0=>rfl
 |h1 l x ih=>rw[qa,Kd,ih,List.length_append];rfl
theorem mD (ks:List Ky) (i:Nat) (rows:List Row) (h:rows.Pairwise λx y=>val ks i x.b≠val ks i y.b∨x.t i≠y.t i):(bQ ks i rows).Pairwise (nk ks i · ·):=by
 induction rows using qb with
 |h0=>exact List.Pairwise.nil
 |h1 l x ih=>
  obtain⟨h1,_,h3⟩:=List.pairwise_append.1 h;rw[qa];exact Ke ks i x _ (ih h1) (λy hy=>h3 y ((bt ks i y l).1 hy) x (List.mem_singleton_self _))
def bj (ks:List Ky) (size:Nat) (b:B):Bool:=decide (b.length≤size)&&ks.all λk=>decide (k.at_+k.len≤b.length)
theorem aR {ks:List Ky} {size:Nat} {b:B}:bj ks size b=true↔b.length≤size∧∀k∈ks,k.at_+k.len≤b.length:=by
 unfold bj;simp
theorem aU {ks:List Ky} {i:Nat} (h:i<ks.length):aF ks i∈ks:=by
 unfold aF;rw[List.getD_eq_getElem?_getD,List.getElem?_eq_getElem h];exact List.getElem_mem h
theorem aV {ks:List Ky} {size:Nat} {b:B} (h:bj ks size b=true) {i:Nat} (hi:i<ks.length):(val ks i b).length=lens ks i:=by
 have:=(aR.1 h).2 _ (aU hi);unfold val lens Ky.val;rw[List.length_take,List.length_drop];omega
structure aQ (ks:List Ky) (size time:Nat) (rows:List Row):Prop where
 fit:∀r∈rows,bj ks size r.b=true
 tl:∀r∈rows,r.ts.length=ks.length
 t0:∀r∈rows,r.t 0=0
 tp:∀r∈rows,∀i,1≤i→i<ks.length→1≤r.t i∧r.t i≤time
 prim:rows.Pairwise λx y=>val ks 0 x.b≠val ks 0 y.b
 tm:∀i,1≤i→i<ks.length→rows.Pairwise λx y=>x.t i≠y.t i
 nodup:∀i,1≤i→i<ks.length→(aF ks i).dup=false→rows.Pairwise λx y=>val ks i x.b≠val ks i y.b
structure eo (ks:List Ky) (size:Nat):Prop where
 one:1≤ks.length∧ks.length≤8
 key:∀k∈ks,1≤k.len∧k.len≤160∧k.at_+k.len≤size
 size:1≤size∧size≤4096
 first:(aF ks 0).dup=false
def Pp (ks:List Ky) (rows:List Row) (p v:B):Prop:=∃r∈rows,val ks 0 r.b=p∧r.b=v
def Ee (ks:List Ky) (rows:List Row) (i:Nat) (p:B) (t:Nat) (q:B):Prop:=∃r∈rows,val ks i r.b=p∧r.t i=t∧val ks 0 r.b=q∧i<ks.length
section
variable {ks : List Ky} {size time : Nat} {rows : List Row} {nm a : B} {c : Nat} {now : List (B × B)}
theorem aQ.zI (h:aQ ks size time rows) {i:Nat} (hi:i<ks.length):rows.Pairwise λx y=>val ks i x.b≠val ks i y.b∨x.t i≠y.t i:=by
 by_cases h0:i=0
 ·subst h0;exact h.prim.imp (λhh=> .inl hh)
 ·exact(h.tm i (by omega) hi).imp (λhh=> .inr hh)
theorem aQ.t32 (h:aQ ks size time rows) (ht:time<4294967296) {r:Row} (hr:r∈rows) {i:Nat} (hi:i<ks.length):r.t i<4294967296:=by
 by_cases h0:i=0
 ·subst h0;rw[h.t0 r hr];decide
 ·have:=h.tp r hr i (by omega) hi;omega
theorem xG (h:aQ ks size time rows) (ht:time<4294967296) {i:Nat} (hi:i<ks.length) {x y:Row} (hx:x∈rows) (hy:y∈rows):bS nm i (val ks i x.b) (x.t i)<bS nm i (val ks i y.b) (y.t i)↔nk ks i x y=true:=by
 rw[pZ];exact Ka ((aV (h.fit x hx) hi).trans (aV (h.fit y hy) hi).symm) (h.t32 ht hx hi) (h.t32 ht hy hi) (λe=>by subst e;rw[h.t0 x hx,h.t0 y hy])
def iw (nm a:B) (ks:List Ky) (rows:List Row) (c:Nat) (now:List (B×B)):Prop:=eP nm a ks.length c (lens ks) (Pp ks rows) (Ee ks rows) now
theorem iw.zJ (h:iw nm a ks rows c now) (hr:aQ ks size time rows) (ht:time<4294967296) {i:Nat} (hi:i<ks.length) {r:Row} (hm:r∈rows):J.look now (bS nm i (val ks i r.b) (r.t i))≠none:=by
 by_cases h0:i=0
 ·subst h0;rw[hr.t0 r hm,(h.pri _ _).2 ⟨r,hm,rfl,rfl⟩];intro e;cases e
 ·rw[(h.alt i _ _ _ (by omega) hi (hr.t32 ht hm hi)).2 ⟨r,hm,rfl,rfl,rfl,hi⟩];intro e;cases e
theorem iw.keys (h:iw nm a ks rows c now) (hk:ks.length≤256) (hr:aQ ks size time rows) (ht:time<4294967296) {i:Nat} (hi:i<ks.length) (v:B) (hv:v.length≤lens ks i):
  (now.map (·.1)).filter (λk=>Lib.hasPrefix k (pre nm i++v))=((bQ ks i rows).filter λr=>decide ((val ks i r.b).take v.length=v)).map λr=>bS nm i (val ks i r.b) (r.t i):=by
 refine mA _ _ (List.Pairwise.filter _ (List.pairwise_map.2 h.asc)) ?_ (λk=> ?_)
 ·rw[List.pairwise_map];refine List.Pairwise.imp_of_mem (λ{x y} hx hy Gs=> ?_) (List.Pairwise.filter _ (mD ks i rows (hr.zI hi)));have hx:=(bt ks i x rows).1 (List.mem_filter.1 hx).1;have hy:=(bt ks i y rows).1 (List.mem_filter.1 hy).1;exact(xG hr ht hi hx hy).2 Gs
 ·rw[List.mem_filter];constructor
  ·rintro⟨fP,hk2⟩;refine List.mem_map.2 ?_;obtain⟨⟨k',x⟩,hm,rfl⟩:=List.mem_map.1 fP;have hk2:Lib.hasPrefix k' (pre nm i++v)=true:=hk2;have hlk:=J.ew now k' x h.asc hm;rcases h.oth k' (by rw[hlk];intro e;cases e)with rfl|rfl|⟨p,rfl⟩|⟨j,p,t,j1,j2,Js,rfl⟩
   ·rw[pz]at hk2;cases hk2
   ·rw[tW]at hk2;cases hk2
   ·by_cases h0:i=0
    ·subst h0;obtain⟨r,fp,e1,e2⟩:=(h.pri p x).1 hlk;have hl:v.length≤p.length:=(by rw[←e1,aV (hr.fit r fp) hi];exact hv);rw[dz hl]at hk2;refine⟨r,List.mem_filter.2 ⟨(bt ks 0 r rows).2 fp,by rw[e1];exact hk2⟩,by rw[e1,hr.t0 r fp]⟩
    ·rw[eJ (by omega) (by decide) h0]at hk2;cases hk2
   ·by_cases rv:i=j
    ·subst rv;obtain⟨r,fp,e1,e2,e3,_⟩:=(h.alt i p t x j1 j2 Js).1 hlk;have hl:v.length≤p.length:=(by rw[←e1,aV (hr.fit r fp) hi];exact hv);rw[dz hl]at hk2;refine⟨r,List.mem_filter.2 ⟨(bt ks i r rows).2 fp,by rw[e1];exact hk2⟩,by rw[e1,e2]⟩
    ·rw[eJ (by omega) (by omega) rv]at hk2;cases hk2
  ·intro Wv;obtain⟨r,Tg,rfl⟩:=List.mem_map.1 Wv;obtain⟨fp,hd⟩:=List.mem_filter.1 Tg;have fp:=(bt ks i r rows).1 fp;have hl:v.length≤(val ks i r.b).length:=(by rw[aV (hr.fit r fp) hi];exact hv);refine⟨?_,by rw[dz hl];exact hd⟩;have hne:=h.zJ hr ht hi fp;cases hlk:J.look now (bS nm i (val ks i r.b) (r.t i))with
   |none=>exact absurd hlk hne
   |some x=>exact List.mem_map.2 ⟨_,J.dZ now _ x hlk,rfl⟩
end
end X
namespace X
structure M where
 ks:List Ky
 size:Nat
 there:Bool
 rows:List Row
 time:Nat
 mode:Nat
 ord:Bool
 key:Nat
 lost:Bool
 value:B
 at_:Nat
 same:Bool
 last:B
 read:Bool
 written:B
abbrev good:B:=[48,48]
def M.new (ks:List Ky) (size:Nat):M:=⟨ks,size,false,[],0,0,false,0,false,[],0,false,[],false,[]⟩
def RM (k:Ky):B:=R.bI k.at_++R.bI k.len++[if k.dup then 1 else 0]
def attr (size:Nat) (ks:List Ky):B:=2::R.bI size++ks.flatMap RM
theorem OX (k:Ky):(RM k).length=9:=by simp[RM,R.dc]
theorem zK (ks:List Ky):(ks.flatMap RM).length=9*ks.length:=by
 induction ks with
 |nil=>rfl
 |cons k t ih=>rw[List.flatMap_cons,List.length_append,ih,OX,List.length_cons];omega
theorem gg (size:Nat) (ks:List Ky):(attr size ks).length=5+9*ks.length:=by
 unfold attr;rw[List.cons_append,List.length_cons,List.length_append,R.dc,zK];omega
def M.con (nm:B) (m:M) (now:List (B×B)):Prop:=if m.there then iw nm (attr m.size m.ks) m.ks m.rows m.time now else now=[]
structure eQ (u:Nat) (m:M):Prop where
 ks:eo m.ks m.size
 rows:aQ m.ks m.size m.time m.rows
 none:m.there=false→m.rows=[]∧m.mode=0∧m.time=0
 many:m.rows.length≤u
 time:m.time≤u
 key:m.key<m.ks.length
 pos:m.lost=false→(m.key=0∧m.value=[]∧m.at_=0)∨(m.value.length=lens m.ks m.key∧(m.key=0→m.at_=0))
 at_:m.at_≤u
 mode:m.mode≤4
theorem eQ.mono {u v:Nat} {m:M} (h:eQ u m) (hv:u≤v):eQ v m:=
 ⟨h.ks,h.rows,h.none,aw h.many hv,aw h.time hv,h.key,h.pos,aw h.at_ hv,h.mode⟩
theorem OY {ks:List Ky} {size:Nat} (h:eo ks size):eQ 0 (M.new ks size):=
 ⟨h,⟨λ_ h=>(by cases h),λ_ h=>(by cases h),λ_ h=>(by cases h),λ_ h=>(by cases h),List.Pairwise.nil,λ_ _ _=>List.Pairwise.nil,λ_ _ _ _=>List.Pairwise.nil⟩,λ_=>⟨rfl,rfl,rfl⟩,aq _,aq _,h.one.1,λ_=> .inl ⟨rfl,rfl,rfl⟩,aq _,Nat.zero_le _⟩
def bM (di:B) (Ww:List Nat) (mode:Nat):B:=if mode=0 then [52,50]else if mode∈Ww then good else di
def nJ (ks:List Ky) (rows:List Row):B:=match(bQ ks 0 rows).getLast? with
 |some r=>val ks 0 r.b
 |none=>[]
def M.opened (m:M) (md:Nat) (ord:Bool):M:=
 {m with there:=true,rows:=if md=2 then []else m.rows,time:=if md=2 then 0 else m.time,mode:=md,ord:=ord,key:=0,lost:=false,value:=[],at_:=0,same:=true,read:=false,written:=if md=4 then nJ m.ks m.rows else []}
def M.open (m:M) (md:Nat) (ord:Bool):M×B:=
 if md<1∨4<md then(m,[51,48])else if m.mode≠0 then(m,[52,49])else if md≠2∧m.there=false then(m,[51,53])else(m.opened md ord,good)
def M.close (m:M):M×B:=if m.mode=0 then(m,[52,50])else({m with mode:=0},good)
def M.dG (m:M):M:={m with lost:=true,read:=false}
def M.more (m:M) (r:Row):Bool:=match(bQ m.ks m.key m.rows).find? (nk m.ks m.key r ·)with
 |some x=>decide (val m.ks m.key x.b=val m.ks m.key r.b)
 |none=>false
def M.take (m:M) (r:Row):M:={m with lost:=false,value:=val m.ks m.key r.b,at_:=r.t m.key,same:=false,last:=val m.ks 0 r.b,read:=true}
def M.qd (m:M) (r:Row):B:=if 0<m.key∧m.more r=true then [48,50]else good
def sR (ks:List Ky) (i:Nat) (v:B) (t:Nat) (same:Bool) (r:Row):Bool:=decide (v<val ks i r.b)||(decide (v=val ks i r.b)&&(decide (t<r.t i)||(decide (r.t i=t)&&same)))
def M.at (m:M):Option Row:=(bQ m.ks m.key m.rows).find? (sR m.ks m.key m.value m.at_ m.same)
def M.next (m:M):M×Option B×B:=
 if bM [52,55] [1,3] m.mode≠good then(m,none,bM [52,55] [1,3] m.mode)
 else if m.lost=true then({m with read:=false},none,[52,54])
 else match m.at with
 |some r=>(m.take r,some r.b,m.qd r)
 |none=>(m.dG,none,[49,48])
def M.mE (m:M) (i:Nat) (v:B):Option Row:=(bQ m.ks i m.rows).find? λr=>decide (val m.ks i r.b=v)
def M.keyed (m:M) (i:Nat):M:={m with key:=i}
def M.get (m:M) (k:Int) (b:B):M×Option B×B:=
 if bM [52,55] [1,3] m.mode≠good then(m,none,bM [52,55] [1,3] m.mode)
 else if k<0∨m.ks.length≤k then(m.dG,none,[50,51])
 else if b.length<(aF m.ks k.toNat).at_+(aF m.ks k.toNat).len then(m.dG,none,[52,52])
 else match m.mE k.toNat (val m.ks k.toNat b)with
 |some r=>((m.dG.keyed k.toNat).take r,some r.b,(m.dG.keyed k.toNat).qd r)
 |none=>(m.dG,none,[50,51])
def M.find (m:M) (p:B):Option Row:=m.rows.find? λr=>decide (val m.ks 0 r.b=p)
def keeps (ks:List Ky) (i:Nat) (b:B) (old:Option Row):Bool:=match old with
 |some o=>decide (val ks i o.b=val ks i b)
 |none=>false
def M.cI (m:M) (i:Nat) (b:B) (old:Option Row):Bool:= !keeps m.ks i b old&&m.rows.any λr=>decide (val m.ks i r.b=val m.ks i b)
def M.cW (m:M) (b:B) (old:Option Row):B:=
 if(List.range' 1 (m.ks.length - 1)).any (λi=>m.cI i b old&& !(aF m.ks i).dup)then [50,50]
 else if(List.range' 1 (m.ks.length - 1)).any (λi=>m.cI i b old)then [48,50]else good
def M.times (m:M) (b:B) (old:Option Row):List Nat:=(List.range m.ks.length).map λi=>if i=0 then 0 else match old with
 |some o=>if val m.ks i o.b=val m.ks i b then o.t i else m.time+1
 |none=>m.time+1
def M.put (m:M) (b:B) (old:Option Row):M:={m with rows:=(m.rows.filter λr=>decide (val m.ks 0 r.b≠val m.ks 0 b))++[⟨b,m.times b old⟩],time:=m.time+1}
def M.aG (m:M):M:={m with read:=false}
def M.write (m:M) (b:B):M×B:=
 if bM [52,56] [2,4,3] m.mode≠good then(m,bM [52,56] [2,4,3] m.mode)
 else if bj m.ks m.size b=false then(m.aG,[52,52])
 else if m.ord=true∧m.mode≠3∧¬m.written<val m.ks 0 b then(m.aG,[50,49])
 else if(m.find (val m.ks 0 b)).isSome∨m.cW b none=[50,50]then(m.aG,[50,50])
 else({m.aG.put b none with written:=val m.ks 0 b},m.cW b none)
def M.rewrite (m:M) (b:B):M×B:=
 if bM [52,57] [3] m.mode≠good then(m,bM [52,57] [3] m.mode)
 else if bj m.ks m.size b=false then(m.aG,[52,52])
 else if m.ord=true∧m.read=false then(m.aG,[52,51])
 else if m.ord=true∧val m.ks 0 b≠m.last then(m.aG,[50,49])
 else match m.find (val m.ks 0 b)with
 |none=>(m.aG,[50,51])
 |some o=>if m.cW b (some o)=[50,50]then(m.aG,[50,50])else(m.aG.put b (some o),m.cW b (some o))
def M.gone (m:M) (p:B):M:={m with rows:=m.rows.filter λr=>decide (val m.ks 0 r.b≠p)}
def M.delete (m:M) (b:B):M×B:=
 if bM [52,57] [3] m.mode≠good then(m,bM [52,57] [3] m.mode)
 else if m.ord=false∧b.length<(aF m.ks 0).at_+(aF m.ks 0).len then(m.aG,[52,52])
 else if m.ord=true∧m.read=false then(m.aG,[52,51])
 else match m.find (if m.ord then m.last else val m.ks 0 b)with
 |none=>(m.aG,[50,51])
 |some _=>(m.aG.gone (if m.ord then m.last else val m.ks 0 b),good)
def rel (r:Nat) (x y:B):Bool:=
 if r=0 then decide (x=y)else if r=1 then decide (y<x)else if r=2 then !decide (x<y)else if r=3 then decide (x<y)else if r=4 then !decide (y<x)else false
def M.place (m:M) (i r:Nat) (v:B):Option Row:=
 if r=3∨r=4 then((bQ m.ks i m.rows).filter λx=>rel r ((val m.ks i x.b).take v.length) v).getLast?
 else(bQ m.ks i m.rows).find? λx=>rel r ((val m.ks i x.b).take v.length) v
def M.start (m:M) (k:Int) (r:Nat) (v:B):M×B:=
 if bM [52,55] [1,3] m.mode≠good then(m,bM [52,55] [1,3] m.mode)
 else if k<0∨m.ks.length≤k∨v.length=0∨(aF m.ks k.toNat).len<v.length then(m.dG,[50,51])
 else match m.place k.toNat r v with
 |none=>(m.dG,[50,51])
 |some x=>({m with read:=false,lost:=false,key:=k.toNat,value:=val m.ks k.toNat x.b,at_:=x.t k.toNat,same:=true},good)
end X
end Go.Proofs.YtipljcmmokaokaaGreat
namespace Go.Proofs.YtipljcmmokaokaaGreat
open Go.RowKit
set_option maxRecDepth 100000
abbrev u8 (b:UInt8):Value:= .int .u8 (b.toNat:Int)
def dx (l:List UInt8):List Value:=l.map u8
theorem eX (l:List UInt8):(dx l).length=l.length:=by simp[dx]
theorem xH (a b:List UInt8):dx (a++b)=dx a++dx b:=by simp[dx]
theorem tA (l:List UInt8) (j:Nat) (h:j<l.length):(dx l)[j]? =some (u8 l[j]):=by simp[dx,h]
structure Step (M M':Nat→Prop) (w w':World):Prop where
 os:w'.os=w.os
 tape:w'.tape=w.tape
 output:w'.output=w.output
 size:w.heap.size≤w'.heap.size
 block:∀k,k<w.heap.size→¬M k→w'.heap[k]? =w.heap[k]?
 sub:∀k,k<w.heap.size→M' k→M k
theorem Step.trans {M M' M'':Nat→Prop} {a b c:World} (h:Step M M' a b) (k:Step M' M'' b c):Step M M'' a c:=
 ⟨k.os.trans h.os,k.tape.trans h.tape,k.output.trans h.output,aw h.size k.size,
  λi hi hn=>(k.block i (av hi h.size) (λh'=>hn (h.sub i hi h'))).trans (h.block i hi hn),
  λi hi hm=>h.sub i hi (k.sub i (av hi h.size) hm)⟩
theorem Step.refl (M:Nat→Prop) (w:World):Step M M w w:=⟨rfl,rfl,rfl,aq _,λ_ _ _=>rfl,λ_ _ h=>h⟩
theorem Step.aI {M:Nat→Prop} {w w':World} (h:Below w.heap.size w w'):Step M M w w':=
 ⟨h.os,h.tape,h.output,h.size,λk hk _=>h.block k hk,λ_ _ h=>h⟩
theorem Step.cC {M:Nat→Prop} {w w':World} {row:Option Nat} (h:w.grownBy w' row) (hr:∀k,row=some k→k<w.heap.size→M k):Step M M w w':=
 ⟨h.os,h.tape,h.output,h.size,λk hk hn=>h.block k hk (λe=>hn (hr k e.symm hk)),λ_ _ h=>h⟩
theorem Step.below {M M':Nat→Prop} {w w':World} {B:Nat} (h:Step M M' w w') (hB:B≤w.heap.size) (hM:∀k,M k→B≤k):Below B w w':=
 ⟨h.os,h.tape,h.output,h.size,λk hk=>h.block k (av hk hB) (λhm=>absurd (hM k hm) (by omega))⟩
theorem Step.cell {M M':Nat→Prop} {w w':World} (h:Step M M' w w') {a:Addr} (ha:a.block<w.heap.size) (hM:¬M a.block):w'.cell? a=w.cell? a:=
 World.cell?_of_block (h.block _ ha hM)
def By (w:World) (M:Nat→Prop) (A:Option Addr) (n:Nat) (l:List UInt8):Prop:=
 l.length=n∧(0<n→∃b o,A=some ⟨b,o,none⟩∧b<w.heap.size∧¬M b∧∀j (h:j<l.length),w.cell? ⟨b,o+j,none⟩=some (u8 l[j]))
abbrev bF:Nat→Prop:=λ_=>False
section
variable {w w' : World} {M M' : Nat → Prop} {A : Option Addr} {n : Nat} {l : List UInt8}
theorem By.ey:By w M A 0 []:=⟨rfl,λh=>absurd h (by omega)⟩
theorem By.step (h:By w M A n l) (hs:Step M M' w w'):By w' M' A n l:=
 ⟨h.1,λhn=>by
  obtain⟨b,o,e,hb,hM,hc⟩:=h.2 hn;exact⟨b,o,e,av hb hs.size,λhm=>hM (hs.sub b hb hm),λj hj=>(hs.cell (a:=⟨b,o+j,none⟩) hb hM).trans (hc j hj)⟩⟩
theorem By.below (h:By w M A n l) (hb:Below w.heap.size w w'):By w' M A n l:=h.step (Step.aI hb)
theorem By.noM (h:By w M A n l):By w bF A n l:=
 ⟨h.1,λhn=>by
  obtain⟨b,o,e,hb,_,hc⟩:=h.2 hn;exact⟨b,o,e,hb,λh=>h,hc⟩⟩
theorem By.drewN (h:By w M A n l) (k:Nat):By (w.drewN k) M A n l:=h
theorem By.drew (h:By w M A n l):By w.drew M A n l:=h
theorem By.alloc (h:By w M A n l) (o:Obj):By (w.alloc o) M A n l:=h.below ((ak _ _).alloc (aq _) _)
theorem By.cell (h:By w M A n l) {k:Nat} (hk:k<n):∃b o,A=some ⟨b,o,none⟩∧b<w.heap.size∧¬M b∧w.cell? ⟨b,o+k,none⟩=some (u8 (l[k]'(by rw[h.1];exact hk))):=by
 obtain⟨b,o,e,hb,hM,hc⟩:=h.2 (by omega);exact⟨b,o,e,hb,hM,hc k (by rw[h.1];exact hk)⟩
theorem By.take (h:By w M A n l) {k:Nat} (hk:k≤n):By w M A k (l.take k):=
 ⟨by rw[List.length_take,h.1];omega,λhn=>by
  obtain⟨b,o,e,hb,hM,hc⟩:=h.2 (by omega);exact⟨b,o,e,hb,hM,λj hj=>by rw[hc j (by rw[h.1];rw[List.length_take,h.1]at hj;omega)];simp⟩⟩
theorem gM (b o k:Nat):(⟨b,o,none⟩:Addr).add k=⟨b,o+k,none⟩:=by
 unfold Addr.add;by_cases h:k=0<;>simp[h]
theorem By.at_ (h:By w M A n l) (hn:0<n):∃ad,A=some ad∧ad.block<w.heap.size∧¬M ad.block∧∀j (h:j<l.length),w.cell? (ad.add j)=some (u8 l[j]):=by
 obtain⟨b,o,e,hb,hM,hc⟩:=h.2 hn;exact⟨_,e,hb,hM,λj hj=>by rw[gM];exact hc j hj⟩
theorem By.drop (h:By w M A n l) {k cap:Nat} (hk:k≤n) (hc:n≤cap):By w M (if cap=k then A else A.map (·.add k)) (n - k) (l.drop k):=
 ⟨by rw[List.length_drop,h.1],λhn=>by
  obtain⟨b,o,e,hb,hM,cq⟩:=h.2 (by omega);subst e;rw[if_neg (by omega)];refine⟨b,o+k,by simp[gM],hb,hM,λj hj=> ?_⟩;rw[Nat.add_assoc,cq (k+j) (by rw[List.length_drop]at hj;omega)];simp⟩
end
theorem OZ (l:List UInt8):∀u∈dx l,u.oneCell'=true:=by
 intro u hu;simp only[dx,List.mem_map]at hu;obtain⟨b,_,rfl⟩:=hu;rfl
theorem Tryz.Fh:(Tryz.prog.info? 5).map (λi=>(i.zero,i.size,i.bytes))=some (some (.int .u8 0),1,1):=by kernel_rfl
section
variable {P : Program} (w : World)
theorem jV (base:Nat) (t ty e:TypeId) (i:TypeInfo) (size:Nat) (ht:P.underlying t=some (.slice e)) (hi:P.info? e=some i)
  (v:Value) (n:Nat) (xs:List Value) (hown:w.ownsRow base e size v n xs) (A:Option Addr) (c:Nat):(Builtin.append_ #[t,t] ty #[v, .slice A 0 c]).run P w= .ok v w:=by
 rcases hown.2 with⟨rfl,rfl⟩|⟨g,cap,cur,rfl,_,_,Ox,_⟩
 ·cases A<;>simp[Builtin.append_,run_underlying ht,sizeOf,typeInfo,hi,Builtin.lenOf,Builtin.firstCells,loadCells,loadCellsFrom,Result.andThen,storeCells]
 ·cases A<;>simp[Builtin.append_,run_underlying ht,sizeOf,typeInfo,hi,Builtin.lenOf,Builtin.firstCells,loadCells,loadCellsFrom,Result.andThen,Ox,storeCells]
end
theorem fQ (w:World) (base:Nat) (v:Value) (n:Nat) (l:List UInt8) (hown:w.ownsRow base 5 1 v n (dx l)) (M:Nat→Prop) (A:Option Addr) (m c:Nat) (x:List UInt8) (hx:By w M A m x)
  (hb:n+m≤100000000) (hbase:base≤w.heap.size) (ty:TypeId):
  ∃v' w',(Builtin.append_ #[40,40] ty #[v, .slice A m c]).run Tryz.prog w= .ok v' w'∧w'.ownsRow base 5 1 v' (n+m) (dx (l++x))∧w.grownBy w' v.ownBlock∧(v'.ownBlock=v.ownBlock∨v'.ownBlock=some w.heap.size)∧(v'= .slice none 0 0↔v= .slice none 0 0∧m=0):=by
 obtain⟨i0,hi,hz0,hz1,hz2⟩:=info_parts Tryz.Fh;rcases Nat.eq_zero_or_pos m with h0|h0
 ·subst h0;obtain rfl:x=[]:=List.eq_nil_of_length_eq_zero hx.1;exact⟨v,w,jV w base _ ty _ i0 1 Tryz.underlying40 hi v n _ hown A c,by simpa using hown,World.grownBy.refl w _, .inl rfl,by simp⟩
 ·obtain⟨ad,rfl,_,_,hc⟩:=hx.at_ h0;obtain⟨v',w',hr,h1,h2,h3,h4⟩:=run_append_own_at (P:=Tryz.prog) w base 40 ty 5 i0 (.int .u8 0) 1 1 Tryz.underlying40 hi hz0 hz1 hz2 rfl (by decide) v n (dx l) hown ad m c (dx x) (by rw[eX,hx.1,Nat.mul_one])
   (λj u hu=>by
    have hj:j<x.length:=by
     by_cases hj:j<x.length
     ·exact hj
     ·rw[List.getElem?_eq_none (by rw[eX];omega)]at hu;cases hu
    rw[tA x j hj]at hu;injection hu with hu;rw[←hu];exact hc j hj) (OZ x) (by unfold maxLen;omega) (by omega) hbase
  exact⟨v',w',hr,by rw[xH];exact h1,h2,h4,h3⟩
theorem tX (w:World) (base:Nat) (v:Value) (n:Nat) (l:List UInt8) (hown:w.ownsRow base 5 1 v n (dx l)) (s:ByteArray)
  (hb:n+s.size≤100000000) (hbase:base≤w.heap.size) (ty:TypeId):
  ∃v' w',(Builtin.append_ #[40,9] ty #[v, .string s]).run Tryz.prog w= .ok v' w'∧w'.ownsRow base 5 1 v' (n+s.size) (dx (l++s.data.toList))∧w.grownBy w' v.ownBlock:=by
 obtain⟨i0,hi,hz0,hz1,hz2⟩:=info_parts Tryz.Fh;obtain⟨v',w',hr,h1,h2,_⟩:=Lib.run_append_own_string (P:=Tryz.prog) w base 40 9 ty 5 i0 Tryz.underlying40 Tryz.underlying9 hi hz0 hz1 hz2 v n (dx l) hown s (by unfold maxLen;omega) (by omega) hbase;exact⟨v',w',hr,by rw[xH];exact h1,h2⟩
section
variable {w : World} {ops : Array Oper} {rest : List Oper} {o : Oper} {a : Act} {Q : Exit → Act → World → Prop}
theorem bq (hgd:o.guard=none) (s x:Operand) (ho:o.op= .call {callee:= .builtin .append,args:=#[s,x],argTypes:=#[40,40]})
  (base:Nat) (v:Value) (n:Nat) (l:List UInt8) (hs:a.eval s=v) (hown:w.ownsRow base 5 1 v n (dx l)) (M:Nat→Prop) (A:Option Addr) (m c:Nat) (x':List UInt8) (hx:a.eval x= .slice A m c) (hr:By w M A m x')
  (hb:n+m≤100000000) (hbase:base≤w.heap.size)
  (h:∀v' w',w'.ownsRow base 5 1 v' (n+m) (dx (l++x'))→w.grownBy w' v.ownBlock→(v'.ownBlock=v.ownBlock∨v'.ownBlock=some w.heap.size)→(v'= .slice none 0 0↔v= .slice none 0 0∧m=0)→wpList Tryz.prog ops Q rest (a.put o.dst v') w'):wpList Tryz.prog ops Q (o::rest) a w:=by
 refine wpList_plain hgd λK hK=> ?_;obtain⟨v',w',hrun,h2,h3,h4,h5⟩:=fQ w base v n l hown M A m c x' hr hb hbase o.type;unfold Oper.wp execOp;simp only[ho,resolve,invoke,builtin,Sem.run_bind,Sem.run_pure,Result.andThen_ok,List.map_toArray,List.map_cons,List.map_nil,hs,hx,hrun];exact hK _ _ (h v' w' h2 h3 h4 h5)
end
theorem fH {w:World} {base n:Nat} {v:Value} {l:List UInt8} {M:Nat→Prop} (h:w.ownsRow base 5 1 v n (dx l)) (hM:∀k,M k→k<base):∃A c,v= .slice A n c∧n≤c∧By w M A n l:=by
 have hl:l.length=n:=by have:=h.1;simpa [eX] using this
 rcases h.2 with⟨rfl,rfl⟩|⟨g,cap,cur,rfl,hbase,hb,h1,h2,h3,h4⟩
 ·exact⟨none,0,rfl,aq _,hl,λh=>absurd h (by omega)⟩
 ·refine⟨_,cap,rfl,h1,hl,λ_=>⟨g,0,rfl,(ai hb).1,λhm=>by have:=hM g hm;omega,λj hj=> ?_⟩⟩;rw[Nat.zero_add];have:=h.cellAt j (by omega);rw[this,tA l j hj]
theorem By.weak {w:World} {M M':Nat→Prop} {A:Option Addr} {n:Nat} {l:List UInt8} (h:By w M A n l) (hM:∀k,M' k→M k):By w M' A n l:=
 ⟨h.1,λhn=>by
  obtain⟨b,o,e,hb,hm,hc⟩:=h.2 hn;exact⟨b,o,e,hb,λh'=>hm (hM _ h'),hc⟩⟩
def Sl (w:World) (M:Nat→Prop) (v:Value) (l:List UInt8):Prop:=
 (∃A,v= .slice A 0 0∧l=[])∨∃b o c,v= .slice (some ⟨b,o,none⟩) l.length c∧l.length≤c∧b<w.heap.size∧By w M (some ⟨b,o,none⟩) l.length l
def U8 (w:World) (b:Nat):Prop:=b<w.heap.size∧∃(cur:Array Value) (_:Unit),w.heap[b]? =some (.cells cur 5 (0,0))
theorem U8.same {w w':World} {b:Nat} (h:U8 w b) (hs:w.heap.size≤w'.heap.size) (hb:w'.heap[b]? =w.heap[b]?):U8 w' b:=by
 obtain⟨h1,cur,fr,e⟩:=h;exact⟨av h1 hs,cur,fr,hb.trans e⟩
def bT (w:World) (M:Nat→Prop) (v:Value) (l:List UInt8):Prop:=
 (v= .slice none 0 0∧l=[])∨∃b o,v= .slice (some ⟨b,o,none⟩) l.length l.length∧l.length≤maxLen∧U8 w b∧¬M b∧By w M (some ⟨b,o,none⟩) l.length l
section
variable {w w' : World} {M M' : Nat → Prop} {v : Value} {l : List UInt8}
theorem bT.sl (h:bT w M v l):Sl w M v l:=by
 rcases h with⟨h,h'⟩|⟨b,o,e,h1,h2,_,h3⟩
 ·exact .inl ⟨none,h,h'⟩
 ·exact .inr ⟨b,o,_,e,aq _,h2.1,h3⟩
theorem bT.step (h:bT w M v l) (hs:Step M M' w w'):bT w' M' v l:=by
 rcases h with h|⟨b,o,e,h1,h2,hm,h3⟩
 ·exact .inl h
 ·exact .inr ⟨b,o,e,h1,h2.same hs.size (hs.block b h2.1 hm),λh=>hm (hs.sub b h2.1 h),h3.step hs⟩
theorem Sl.step (h:Sl w M v l) (hs:Step M M' w w'):Sl w' M' v l:=by
 rcases h with h|⟨b,o,c,e,h0,h2,h3⟩
 ·exact .inl h
 ·exact .inr ⟨b,o,c,e,h0,av h2 hs.size,h3.step hs⟩
theorem Sl.weak (h:Sl w M v l) (hM:∀k,M' k→M k):Sl w M' v l:=by
 rcases h with h|⟨b,o,c,e,h0,h2,h3⟩
 ·exact .inl h
 ·exact .inr ⟨b,o,c,e,h0,h2,h3.weak hM⟩
theorem bT.weak (h:bT w M v l) (hM:∀k,M' k→M k):bT w M' v l:=by
 rcases h with h|⟨b,o,e,h1,h2,hm,h3⟩
 ·exact .inl h
 ·exact .inr ⟨b,o,e,h1,h2,λh=>hm (hM b h),h3.weak hM⟩
theorem Sl.ey:Sl w M (.slice none 0 0) []:= .inl ⟨none,rfl,rfl⟩
theorem bT.ey:bT w M (.slice none 0 0) []:= .inl ⟨rfl,rfl⟩
theorem Sl.by (h:Sl w M v l):∃A c,v= .slice A l.length c∧l.length≤c∧By w M A l.length l:=by
 rcases h with⟨A,rfl,rfl⟩|⟨b,o,c,rfl,h0,_,h3⟩
 ·exact⟨A,0,rfl,aq _,By.ey⟩
 ·exact⟨_,c,rfl,h0,h3⟩
end
theorem Gt (A:Addr) (n c:Nat) (w:World) (hc:n≤c):
  Calls Tryz.prog 83 #[.slice (some A) n c] w λe w'=>e= .returned (.slice (some A) n n)∧w=w':=by
 go_enter Tryz.func83,Tryz.ntmps83;go_wp2;go_ret;exact⟨rfl,rfl⟩
theorem Gu (w:World):
  Calls Tryz.prog 83 #[.slice none 0 0] w λe w'=>e= .returned (.slice none 0 0)∧w=w':=by
 go_enter Tryz.func83,Tryz.ntmps83;go_wp2;go_ret;exact⟨rfl,rfl⟩
theorem CG (w:World):
  Calls Tryz.prog 127 #[.slice none 0 0] w λe w'=>e= .returned (.slice none 0 0)∧w=w':=by
 have hq:=λw=>run_eql_slice_nil (P:=Tryz.prog) w 40 5 none 0 0 Tryz.underlying40;go_enter Tryz.func127,Tryz.ntmps127;go_wp2;go_ret;exact⟨rfl,rfl⟩
theorem Gv (a:Addr) (c:Nat) (w:World) (M:Nat→Prop) (l:List UInt8) (h:By w M (some a) l.length l) (hl:l.length≤90000000):
  Calls Tryz.prog 127 #[.slice (some a) l.length c] w λe w'=>∃g cap,e= .returned (.slice (some ⟨g,0,none⟩) l.length cap)∧l.length≤cap∧w.heap.size≤g∧U8 w' g∧By w' (· <w.heap.size) (some ⟨g,0,none⟩) l.length l∧Below w.heap.size w w':=by
 have H:=ae h;clear h;have hq:=λw=>run_eql_slice_nil (P:=Tryz.prog) w 40 5 (some a) l.length c Tryz.underlying40;go_enter Tryz.func127,Tryz.ntmps127;have hrow:(w.alloc (.cells #[] 5)).ownsRow w.heap.size 5 1 (.slice (some ⟨w.heap.size,0,none⟩) 0 0) 0 (dx []):=World.ownsRow_made w #[] 0 (aq _) (Nat.zero_le _) rfl;go_wp2_with (refine bq rfl _ _ rfl w.heap.size (.slice (some ⟨w.heap.size,0,none⟩) 0 0) 0 [] rfl hrow M (some a) l.length c l rfl (H.out.alloc _) (by omega) (by simp) ?_);intro v' w' hown hg hat hnil;have hb:Below w.heap.size w w':=((ak _ _).alloc (aq _) _).grown hg (by simp) (λk e=>by cases e;exact aq _);rcases hown.2 with⟨rfl,_⟩|⟨g,cap,cur,rfl,hbase,hbk,h1,h2,h3,h4⟩
 ·exact(hnil rfl).elim
 ·obtain⟨A',c',e,hc',hby⟩:=fH hown (M:=(· <w.heap.size)) (λk hk=>hk);injection e with e1 e2 e3;subst e1 e3;have HBy:=ae hby
  have HB:=ae hb;have Cl:U8 w' g:=⟨(ai hbk).1,cur,(),hbk⟩;clear hown hg hat hnil hby hb hbk h3 h4 hq hrow;go_wp2_with fail;go_ret;exact⟨g,cap,rfl,h1,hbase,Cl,HBy.out,HB.out⟩
theorem tY (v:Value) (l:List UInt8) (w:World) (M:Nat→Prop) (h:Sl w M v l) (hl:l.length≤90000000):
  Calls Tryz.prog 96 #[v] w λe w'=>∃v',e= .returned v'∧bT w' (· <w.heap.size) v' l∧Below w.heap.size w w':=by
 have key:∀(a:Addr) (c:Nat),l.length≤c→By w M (some a) l.length l→Calls Tryz.prog 96 #[.slice (some a) l.length c] w λe w'=>∃v',e= .returned v'∧bT w' (· <w.heap.size) v' l∧Below w.heap.size w w':=by
  intro a c h0 h3;have H:=ae h3;clear h3 h;go_enter Tryz.func96,Tryz.ntmps96;go_wp2_with fail;refine(Gv a c _ M l H.out hl).mono ?_;rintro e w1 ⟨g,cap,rfl,hc,hg,hg2,hby,hb⟩;have HBy:=ae hby
  have HB:=ae hb;clear hby hb;go_wp2_with fail;refine(Gt _ _ _ _ hc).mono ?_;rintro e w2 ⟨rfl,rfl⟩;go_wp2_with fail;go_ret;exact⟨_,rfl, .inr ⟨g,0,rfl,by unfold maxLen;omega,hg2,by show¬_<_;omega,HBy.out⟩,HB.out⟩
 rcases h with⟨_|a,rfl,rfl⟩|⟨b,o,c,rfl,h0,h2,h3⟩
 ·clear key;go_enter Tryz.func96,Tryz.ntmps96;go_wp2_with fail;refine(CG _).mono ?_;rintro e w0 ⟨rfl,rfl⟩;go_wp2_with fail;refine(Gu _).mono ?_;rintro e w0 ⟨rfl,rfl⟩;go_wp2_with fail;go_ret;exact⟨_,rfl,bT.ey,ak _ _⟩
 ·exact key a 0 (aq _) By.ey
 ·exact key _ c h0 h3
theorem CH (l:List UInt8) (k:Nat) (h:k<l.length):l.take (k+1)=l.take k++[l[k]]:=List.take_succ_eq_append_getElem h
theorem Kf (s:Nat) (x:UInt8) (hs:s<4294967296):(bits BinOp.xor IntKind.u32 (s:Int) ((x.toNat:Int)%4294967296)*16777619%4294967296)=((J.mi s x:Nat):Int):=by
 have hx:=x.toNat_lt;have e:((x.toNat:Int)%4294967296)=((x.toNat:Nat):Int):=by omega
 rw[e,u32_xor_nat _ _ hs (by omega)];unfold J.mi;rw[Int.natCast_emod,Int.natCast_mul];rfl
theorem Gw (A:Option Addr) (n c:Nat) (l:List UInt8) (w:World) (M:Nat→Prop) (h:By w M A n l) (hn:n≤90000000):
  Calls Tryz.prog 117 #[.slice A n c] w λe w'=>e= .returned (.int .u32 (J.bM l:Nat))∧w=w':=by
 have H:=ae h;have hl:l.length=n:=h.1;clear h;go_enter Tryz.func117,Tryz.ntmps117;go_wp2;go_loop [3,8] (fun s i=>∃k:Nat,k≤n∧i= .int .i64 k∧s= .int .u32 (J.bM (l.take k):Nat)) (fun _ i=>n - (intOf i).toNat)
 case atStart=>exact⟨0,Nat.zero_le _,rfl,rfl⟩
 case round=>
  obtain⟨k,hk,rfl,rfl⟩:=hrel;by_cases hlt:k<n
  ·obtain⟨b,o,rfl,hb,_,hc⟩:=H.out.cell hlt;have dV:k<l.length:=(by omega);have HS:=ae (CH l k dV);have HC:=ae (J.JP (l.take k) l[k]);have HX:=ae (Kf (J.bM (l.take k)) l[k] (J.CC _));go_wp2;go_round
   case rel=>exact⟨k+1,by omega,by go_num,by rw[HS.out,HC.out,HX.out]⟩
   case measure=>simp[intOf];omega
  ·go_wp2;go_ret;exact⟨by rw[List.take_of_length_le (by omega)];rfl,rfl⟩
def Loc (w:World) (v v':Value):Prop:=v'.ownBlock=v.ownBlock∨∃g,v'.ownBlock=some g∧w.heap.size≤g
theorem CI {a b c:World} {v v':Value} (h:a.grownBy b v.ownBlock) (k:b.grownBy c v'.ownBlock) (hl:Loc a v v'):a.grownBy c v.ownBlock:=
 ⟨k.os.trans h.os,k.tape.trans h.tape,k.output.trans h.output,aw h.size k.size,λi hi hn=>(k.block i (av hi h.size) (λe=>by
  rcases hl with hl|⟨g,hg,vE⟩
  ·exact hn (e.trans hl)
  ·rw[hg]at e;injection e with e;omega)).trans (h.block i hi hn)⟩
theorem vM {a c:World} {o:Obj} {r:Option Nat} (k:(a.alloc o).grownBy c r) (hr:r≠some a.heap.size∨True):a.grownBy c r:=by
 have _:=hr;exact⟨k.os,k.tape,k.output,aw (by simp) k.size,λi hi hn=>(k.block i (by simp;omega) hn).trans (Below.heap_alloc a o i hi)⟩
theorem oD (v:Value) (n:Nat) (xs:List UInt8) (x:Nat) (many base:Nat) (w:World) (h:w.ownsRow base 5 1 v n (dx xs)) (hbase:base≤w.heap.size) (hx:x<18446744073709551616) (hm:many≤8) (hn:n≤90000000):
  Calls Tryz.prog 143 #[v, .int .u64 x, .int .i64 many] w λe w'=>∃v',e= .returned v'∧w'.ownsRow base 5 1 v' (n+many) (dx (xs++J.leB x many))∧w.grownBy w' v.ownBlock∧Loc w v v':=by
 go_enter Tryz.func143,Tryz.ntmps143;go_wp2;go_loopw [0,9] (fun s i wr=>∃k:Nat,k≤many∧i= .int .i64 k∧wr.ownsRow base 5 1 s (n+k) (dx (xs++J.leB x k))∧w.grownBy wr v.ownBlock∧Loc w v s) (fun _ i _=>many - (intOf i).toNat)
 case atStart=>exact⟨0,Nat.zero_le _,rfl,by simpa [J.leB] using h,World.grownBy.refl w _, .inl rfl⟩
 case round=>
  obtain⟨k,hk,rfl,hown,hgr,hloc⟩:=hrel;have HO:=ae hown;have HG:=ae hgr;have HL:=ae hloc;clear hown hgr hloc;by_cases hlt:k<many
  ·have hby:∀W:World,By (W.alloc (.cells #[.int .u8 ((x:Int)/2^(8*k)%256)] 5)) bF (some ⟨W.heap.size,0,none⟩) 1 [UInt8.ofNat (x/256^k)]:=λW=>⟨rfl,λ_=>⟨W.heap.size,0,rfl,by simp,λh=>h,λj hj=>by
    obtain rfl:j=0:=(by simpa using hj);rw[Nat.zero_add];refine(World.cell?_alloc_new _ _ _ _).trans ?_;show some _=some (u8 _)
    congr 1
    show Value.int .u8 _=Value.int .u8 _
    congr 1
    show _=((UInt8.ofNat (x/256^k)).toNat:Int);rw[UInt8.toNat_ofNat',show(256:Nat)^k=2^(8*k) by rw[show(256:Nat)=2^8 by decide,←Nat.pow_mul],Int.natCast_emod,Int.natCast_ediv,Int.natCast_pow];rfl⟩⟩
   have HY:=ae hby
   clear hby
   go_wp2_with (at_builtin;refine bq rfl _ _ rfl base _ (n+k) (xs++J.leB x k) rfl (HO.out.alloc _) bF (some ⟨wr.heap.size,0,none⟩) 1 1 [UInt8.ofNat (x/256^k)] rfl (HY.out _) (by omega) (by have:=HG.out.size;simp;omega) ?_);intro v' w' hown hg hat hnil;have gN:=ae hown;have hg2:=CI HG.out (vM hg (.inr trivial)) HL.out;have Oy:=ae hg2;have hsz:=HG.out.size;have hl2:Loc w v v':=by
    rcases hat with e|e
    ·rcases HL.out with h|⟨g,h,h2⟩
     ·exact .inl (e.trans h)
     ·exact .inr ⟨g,e.trans h,h2⟩
    ·exact .inr ⟨_,e,by first|omega|(simp;omega)⟩
   have Th:=ae hl2;clear hown hg hat hnil hg2 hl2;go_wp2_with fail;go_roundw
   case rel=>exact⟨k+1,by omega,by go_num,by rw[J.zy,←Nat.add_assoc];exact gN.out,Oy.out,Th.out⟩
   case measure=>simp[intOf];omega
  ·obtain rfl:k=many:=(by omega);go_wp2;go_ret;exact⟨_,rfl,HO.out,HG.out,HL.out⟩
end Go.Proofs.YtipljcmmokaokaaGreat
namespace Go.Proofs.YtipljcmmokaokaaGreat
open Go.RowKit Go.Lib
set_option maxRecDepth 100000
theorem wpList_append_run {P:Program} {w:World} {ops:Array Oper} {rest:List Oper} {o:Oper} {a:Act} {Q:Exit→Act→World→Prop} (hgd:o.guard=none) (s x:Operand) (t u:TypeId)
  (ho:o.op= .call {callee:= .builtin .append,args:=#[s,x],argTypes:=#[t,u]}) (v1 v2:Value) (hs:a.eval s=v1) (hx:a.eval x=v2) (v':Value) (w':World)
  (hrun:(Builtin.append_ #[t,u] o.type #[v1,v2]).run P w= .ok v' w') (h:wpList P ops Q rest (a.put o.dst v') w'):wpList P ops Q (o::rest) a w:=by
 refine wpList_plain hgd λK hK=> ?_;unfold Oper.wp execOp;simp only[ho,resolve,invoke,builtin,Sem.run_bind,Sem.run_pure,Result.andThen_ok,List.map_toArray,List.map_cons,List.map_nil,hs,hx,hrun];exact hK _ _ h
theorem Gx (n:Nat) (w:World) (hn:n≤90000000):
  Calls Tryz.prog 139 #[.slice none 0 0, .int .i64 n] w λe w'=>∃v',e= .returned v'∧w'.ownsRow w.heap.size 5 1 v' 0 (dx [])∧Below w.heap.size w w':=by
 obtain⟨i0,Ff,hz0,hz1,hz2⟩:=info_parts Tryz.Fh;rcases Nat.eq_zero_or_pos n with h0|h0
 ·subst h0;go_enter Tryz.func139,Tryz.ntmps139;go_wp2;go_ret;exact⟨_,rfl,World.ownsRow_nil _ _ _ _,ak _ _⟩
 ·have hrz:∀ty,(Builtin.append_ #[40,3] ty #[.slice none 0 0, .int .i64 (n:Int)]).run Tryz.prog w=
    .ok (.slice (some ⟨w.heap.size,0,none⟩) n (grownCap w n 0 5)) (w.drew.alloc (.cells (Builtin.zeroCells (Value.int .u8 0).cells n++Builtin.zeroCells (Value.int .u8 0).cells (grownCap w n 0 5 - n)) 5)):=λty=>by
   have h:=Lib.run_append_grow_zeros (P:=Tryz.prog) w 40 3 ty 5 i0 (.int .u8 0) .i64 .i64 Tryz.underlying40 Tryz.underlying3 Ff hz0 none 0 0 [] (run_firstCells_none w.drew i0.size 0 0 0) n (by omega) (by omega) (by omega) (by omega)
    (by rw[hz2];omega) (by rw[hz2];exact growslice_fits (by omega) (by omega))
   simpa using h
  have hG:=grownCap_ge w n 0 5;have Zw:=grownCap_le_maxLen w n 0 5 (by unfold maxLen;omega);have hrow:∀C:Nat,n≤C→C≤maxLen→(w.drew.alloc (.cells (Builtin.zeroCells (Value.int .u8 0).cells n++Builtin.zeroCells (Value.int .u8 0).cells (C - n)) 5)).ownsRow w.heap.size 5 1 (.slice (some ⟨w.heap.size,0,none⟩) 0 C) 0 (dx []):=by
   intro C h1 h2;refine World.ownsRow_made w.drew _ C (aq _) h2 ?_;rw[Array.size_append,size_zeroCells,size_zeroCells];show n*1+(C - n)*1=C*1;omega
  generalize grownCap w n 0 5=C at hrz hG Zw;have HR:=ae (hrow C hG Zw);have HZ:=ae hrz;clear hrz;have hC:(C:Int)≤9223372036854775807:=(by unfold maxLen at Zw;omega);have h1:(0:Int)<(n:Int):=(by omega);clear hrow Zw;go_enter Tryz.func139,Tryz.ntmps139;go_wp2_with (at_builtin;refine wpList_append_run rfl _ _ 40 3 rfl (.slice none 0 0) (.int .i64 (n:Int)) rfl rfl _ _ (HZ.out _) ?_);go_wp2_with fail;go_ret;exact⟨_,rfl,HR.out,((ak _ _).drew).alloc (aq _) _⟩
def CJ (l0 l1:List UInt8):Nat→List UInt8|0=>[]|1=>l0|_=>l0++l1
theorem si (b:Nat) (A0 A1:Option Addr) (n0 n1 c0 c1:Nat) (l0 l1:List UInt8) (w:World) (M0 M1:Nat→Prop) (hb:b<w.heap.size) (h0:w.cell? ⟨b,0,none⟩=some (.slice A0 n0 c0)) (h1:w.cell? ⟨b,1,none⟩=some (.slice A1 n1 c1))
  (VJ:By w M0 A0 n0 l0) (Pb:By w M1 A1 n1 l1) (CM:n0≤40000000) (rz:n1≤40000000):
  Calls Tryz.prog 115 #[.slice (some ⟨b,0,none⟩) 2 2] w λe w'=>∃v',e= .returned v'∧w'.ownsRow w.heap.size 5 1 v' (n0+n1) (dx (l0++l1))∧Below w.heap.size w w':=by
 have H0:=ae h0;have H1:=ae h1;have HY0:=ae VJ;have Kg:=ae Pb;have e0:l0.length=n0:=VJ.1;have e1:l1.length=n1:=Pb.1;clear h0 h1 VJ Pb;go_enter Tryz.func115,Tryz.ntmps115;go_wp2;go_loop [3,11] (fun s i=>∃k:Nat,k≤2∧i= .int .i64 k∧s= .int .i64 ((CJ l0 l1 k).length:Nat)) (fun _ i=>2 - (intOf i).toNat)
 case atStart=>exact⟨0,Nat.zero_le _,rfl,rfl⟩
 case round=>
  obtain⟨k,hk,rfl,rfl⟩:=hrel;rcases(show k=0∨k=1∨k=2 by omega)with rfl|rfl|rfl
  ·have hc:=H0.out;have hl:(CJ l0 l1 0).length=0:=rfl;rw[hl];clear hl;go_wp2;go_round
   case rel=>exact⟨1,by omega,by go_num,by show _=Value.int .i64 ((l0.length:Nat):Int);rw[e0]⟩
   case measure=>simp[intOf]
  ·have hc:=H1.out;have hl:(CJ l0 l1 1).length=n0:=e0;have HL:=ae hl;rw[hl];clear hl;go_wp2;go_round
   case rel=>exact⟨2,by omega,by go_num,by show _=Value.int .i64 (((l0++l1).length:Nat):Int);rw[List.length_append,e0,e1];go_num⟩
   case measure=>simp[intOf]
  ·have hl:(CJ l0 l1 2).length=n0+n1:=(by show(l0++l1).length=_;rw[List.length_append,e0,e1]);rw[hl];clear hl;go_wp2_with fail;have hg:=Gx (n0+n1) w (by omega);rw[Int.natCast_add]at hg;refine hg.mono ?_;rintro e w1 ⟨v',rfl,hown,zL⟩;have HB:=ae zL;have HO:=ae hown;clear hown zL hg;go_wp2;go_loopw [6,27] (fun s i wr=>∃k:Nat,k≤2∧i= .int .i64 k∧wr.ownsRow w.heap.size 5 1 s (CJ l0 l1 k).length (dx (CJ l0 l1 k))∧Below w.heap.size w wr) (fun _ i _=>2 - (intOf i).toNat)
   case atStart=>exact⟨0,Nat.zero_le _,rfl,HO.out,HB.out⟩
   case round=>
    obtain⟨k,hk,rfl,hown,zL⟩:=hrel;have fF:=ae zL;have HOW:=ae hown;clear hown zL;rcases(show k=0∨k=1∨k=2 by omega)with rfl|rfl|rfl
    ·have hc:=(fF.out.cell (p:=⟨b,0,none⟩) hb).trans H0.out;go_wp2_with (at_builtin;refine bq rfl _ _ rfl w.heap.size _ 0 [] rfl HOW.out M0 A0 n0 c0 l0 rfl (HY0.out.below fF.out) (by omega) fF.out.size ?_);intro v' w' hown hg hat hnil;have gN:=ae hown;have br:=ae (fF.out.grown hg fF.out.size (λj hj=>(HOW.out.lt j hj).1));clear hown hg hat hnil;go_wp2_with fail;go_roundw
     case rel=>exact⟨1,by omega,by go_num,by show World.ownsRow _ _ _ _ _ l0.length (dx l0);rw[e0];exact gN.out,br.out⟩
     case measure=>simp[intOf]
    ·have hc:=(fF.out.cell (p:=⟨b,1,none⟩) hb).trans H1.out;go_wp2_with (at_builtin;refine bq rfl _ _ rfl w.heap.size _ l0.length l0 rfl HOW.out M1 A1 n1 c1 l1 rfl (Kg.out.below fF.out) (by omega) fF.out.size ?_);intro v' w' hown hg hat hnil;have gN:=ae hown;have br:=ae (fF.out.grown hg fF.out.size (λj hj=>(HOW.out.lt j hj).1));clear hown hg hat hnil;go_wp2_with fail;go_roundw
     case rel=>exact⟨2,by omega,by go_num,by show World.ownsRow _ _ _ _ _ (l0++l1).length (dx (l0++l1));rw[List.length_append,e0,e1];exact gN.out,br.out⟩
     case measure=>simp[intOf]
    ·go_wp2;go_ret;exact⟨_,rfl,by have:(CJ l0 l1 2).length=n0+n1:=by {show(l0++l1).length=_;rw[List.length_append,e0,e1]};have h2:=HOW.out;rw[this]at h2;exact h2,fF.out⟩
theorem nK (A0 A1:Option Addr) (n0 n1 c0 c1:Nat) (l0 l1:List UInt8) (w:World) (M0 M1:Nat→Prop) (VJ:By w M0 A0 n0 l0) (Pb:By w M1 A1 n1 l1):
  Calls Tryz.prog 43 #[.slice A0 n0 c0, .slice A1 n1 c1] w λe w'=>e= .returned (.bool (l0==l1))∧w=w':=by
 have hc:∀(A:Option Addr) (n c:Nat) (l:List UInt8) (M:Nat→Prop),By w M A n l→(convert 40 9 (.slice A n c)).run Tryz.prog w= .ok (.string ⟨l.toArray⟩) w:=by
  intro A n c l M h;rcases Nat.eq_zero_or_pos n with h0|h0
  ·subst h0;obtain rfl:l=[]:=List.eq_nil_of_length_eq_zero h.1;rw[run_convert_bytes_string w 40 9 5 A 0 c Tryz.underlying40 Tryz.underlying5 Tryz.underlying9];cases A<;>rfl
  ·obtain⟨ad,rfl,_,_,cq⟩:=h.at_ h0;have e:=h.1;subst e;exact run_convert_bytes_back w 40 9 5 ad c l Tryz.underlying40 Tryz.underlying5 Tryz.underlying9 cq
 have hq0:=hc A0 n0 c0 l0 M0 VJ;have Kh:=hc A1 n1 c1 l1 M1 Pb;clear hc VJ Pb;go_enter Tryz.func43,Tryz.ntmps43;go_wp2;go_ret;exact⟨rfl,rfl⟩
end Go.Proofs.YtipljcmmokaokaaGreat
namespace Go.Proofs.YtipljcmmokaokaaGreat
open Go.RowKit
set_option maxRecDepth 100000
section
variable {P : Program} {w : World}
theorem ku (g:Nat) (t:TypeId) (fr:Nat×Nat):∀(vs:List Value) (o:Nat) (w:World) (C:Array Value),w.heap[g]? =some (.cells C t fr)→
  ∃C',(w.setCells g o vs).heap[g]? =some (.cells C' t fr)∧C'.size=C.size
 |[],_,_,C,h=>⟨C,h,rfl⟩
 |v::r,o,w,C,h=>by
  have h1:(w.setCell ⟨g,o,none⟩ v).heap[g]? =some (.cells (C.setIfInBounds o v) t fr):=by
   simp only[World.setCell,Array.getElem?_modify,h];simp
  obtain⟨C',h2,h3⟩:=ku g t fr r (o+1) _ _ h1;exact⟨C',h2,by simpa using h3⟩
theorem fI (g:Nat):∀(vs:List Value) (o:Nat) (w:World),w.grownBy (w.setCells g o vs) (some g)∧(w.setCells g o vs).heap.size=w.heap.size
 |[],_,_=>⟨⟨rfl,rfl,rfl,aq _,λ_ _ _=>rfl⟩,rfl⟩
 |v::r,o,w=>by
  have⟨h1,h2⟩:=fI g r (o+1) (w.setCell ⟨g,o,none⟩ v);have hs:(w.setCell ⟨g,o,none⟩ v).heap.size=w.heap.size:=(by simp[World.setCell]);refine⟨⟨h1.os,h1.tape,h1.output,by have:=h1.size;rw[hs]at this;exact this,λk hk hn=> ?_⟩,h2.trans hs⟩;exact(h1.block k (by omega) hn).trans (Below.heap_setCell w _ v k (by intro e;exact hn (by rw[e])))
theorem wpList_store_row {ops:Array Oper} {rest:List Oper} {o:Oper} {a:Act} {Q:Exit→Act→World→Prop}
  (hgd:Region.wanted o (yielded ops a.tmps)=true) (x y:Operand) (ty:TypeId) (hop:o.op=Op.store ty x y) (g:Nat) (hx:a.eval x= .pointer (some ⟨g,0,none⟩)) (vs:List Value) (hy:a.eval y= .agg vs.toArray)
  (t:TypeId) (C:Array Value) (hg:w.heap[g]? =some (.cells C t (0,0))) (hC:C.size=vs.length) (hi:(P.info? ty).map (·.size)=some vs.length) (h1:(vs.all λv=>v.oneCell')=true)
  (hK:∀w',w'.heap[g]? =some (.cells vs.toArray t (0,0))→w.grownBy w' (some g)→w'.heap.size=w.heap.size→wpList P ops Q rest (a.put o.dst undef) w'):
  wpList P ops Q (o::rest) a w:=by
 refine wpList_want hgd λK' hK'=> ?_;have hcell:∀j,w.cell? ⟨g,j,none⟩=C[j]? :=λj=>ah w g j C t (0,0) hg;have hst:=run_storeCells_cells (P:=P) g 0 vs 0 w (λj hj=>by rw[hcell];simp[hC];omega) (λj _=>by simp[World.frozen?,hg]) (λv hv=>List.all_eq_true.1 h1 v hv);have hrun:(Instr.storeAt ty (.pointer (some ⟨g,0,none⟩)) (.agg vs.toArray)).run P w= .ok () (w.setCells g 0 vs):=by
  cases hq:P.info? ty with
  |none=>simp[hq]at hi
  |some i=>
   have hs:i.size=vs.length:=(by simpa [hq] using hi);simp[Instr.storeAt,Instr.sureAddr,storeVar,Sem.run_bind,sizeOf,typeInfo,hq,hs,Value.cells]
   simpa using hst
 obtain⟨C',Wx,hC2⟩:=ku g t (0,0) vs 0 w C hg;have hCe:C'=vs.toArray:=by
  apply Array.ext_getElem?;intro j;have e:=ah (w.setCells g 0 vs) g j C' t (0,0) Wx;rw[←e];by_cases hj:j<vs.length
  ·have:=World.cell?_setCells_in g vs 0 w (λj hj=>by rw[Nat.zero_add,hcell];simp[hC];omega) j hj;rw[Nat.zero_add]at this;rw[this];simp[hj]
  ·rw[e,Array.getElem?_eq_none (by omega)];simp;omega
 subst hCe;have hb:=fI g vs 0 w;unfold Oper.wp;simp only[execOp,hop,hx,hy];have:=hK' _ _ (hK _ Wx hb.1 hb.2);simp only[Sem.run_bind,hrun,Result.andThen];exact this
theorem gO {fn:Func} {p u:Tmp} {ty:TypeId} (h:fn.results=#[.cell p ty, .tmp u]) (tmps:Array Value) (w:World) (g:Nat) (t:TypeId) (cs:Array Value) (fr:Nat×Nat) (d:TypeDesc)
  (hp:tmps.getD p undef= .pointer (some ⟨g,0,none⟩)) (hg:w.heap[g]? =some (.cells cs t fr))
  (hu:P.underlying ty=some d) (hd:(match d with| .struct _| .array _ _=>true|_=>false)=true) (hi:(P.info? ty).map (·.size)=some cs.size):
  (results fn tmps).run P w= .ok (.tuple #[.agg cs,tmps.getD u undef]) w:=by
 rw[results_cell_tmp h];simp[hp,asAddr,Result.andThen,Sem.run_pure,run_loadVar_row w g t ty cs fr d hg hu hd hi]
end
end Go.Proofs.YtipljcmmokaokaaGreat
