import Derived.Test.YtipljcmmokaokaaGreatQ00
import Derived.Lib.Strings
import Derived.Laws.OwnMore
import Derived.Deep.AppendLies
import Derived.Deep.Draws
import Derived.Maps.AppendAt
import Derived.RegionTactic
import Derived.OwnWalk
import Derived.Lib.AppendStr
import Derived.Outline
import Derived.Lib.LazyBuf
import Derived.Laws.BitsAllLaws
import Derived.Lib.AppendZerosOnto
import Derived.Lib.SliceRun
import Derived.Test.YtipljcmmokaokaaGreatQA
set_option linter.unusedVariables false
set_option linter.unusedSimpArgs false
set_option maxHeartbeats 1000000
namespace Go.Proofs.YtipljcmmokaokaaGreat
namespace X
abbrev B:=J.B
theorem lA:∀(a b:List B),a.Pairwise (· < ·)->b.Pairwise (· < ·)->(∀x,x∈a↔x∈b)->a=b
 |[],[],_,_,_=>rfl
 |[],y::t,_,_,h=>by have:=(h y).2 af;cases this
 |x::t,[],_,_,h=>by have:=(h x).1 af;cases this
 |x::s,y::t,ha,hb,h=>by
  obtain⟨d,g⟩:=List.pairwise_cons.1 ha;obtain⟨f,i⟩:=List.pairwise_cons.1 hb;have e:x=y:=by
   rcases au ((h x).1 af)with e|e
   ·exact e
   ·rcases au ((h y).2 af)with e2|e2
    ·exact e2.symm
    ·exact absurd (d y e2) (List.lt_asymm (f x e))
  subst e
  congr 1
  refine lA s t g i (λz=>⟨λc=> ?_,λc=> ?_⟩)
  ·rcases au ((h z).1 (ag _ c))with e|e
   ·subst e;exact absurd (d z c) (List.lt_irrefl z)
   ·exact e
  ·rcases au ((h z).2 (ag _ c))with e|e
   ·subst e;exact absurd (f z c) (List.lt_irrefl z)
   ·exact e
theorem Jh:∀(p q s t:B),p.length=q.length->(p++s<q++t↔p<q\/p=q/\s<t)
 |[],[],s,t,_=>by simp[List.lt_irrefl]
 |[],_::_,_,_,h=>by cases h
 |_::_,[],_,_,h=>by cases h
 |a::p,b::q,s,t,h=>by
  have c:=Jh p q s t (by simpa using h);rw[List.cons_append,List.cons_append,R.lx,R.lx,c];by_cases e:a=b
  ·subst e;have:¬a<a:=(by simp);simp[this]
  ·simp[e]
def own (nm:B):B:=nm++[0,65]
def cK (nm:B):B:=nm++[0,67]
def pre (nm:B) (i:Nat):B:=if i=0 then nm++[0,80]else nm++[0,75,UInt8.ofNat i]
def tail (i:Nat) (p:B) (t:Nat):B:=if i=0 then p else p++R.cp t
def cy (nm:B) (i:Nat) (p:B) (t:Nat):B:=pre nm i++tail i p t
theorem ly (nm:B):(own nm).length=nm.length+2:=by simp[own]
theorem sG (nm:B):(cK nm).length=nm.length+2:=by simp[cK]
theorem ia (nm:B) (i:Nat):(pre nm i).length<=nm.length+3:=by unfold pre;split<;>simp
theorem Og (nm:B):(pre nm 0).length=nm.length+2:=by simp[pre]
theorem Oh (i:Nat) (p:B) (t:Nat):(tail i p t).length<=p.length+4:=by
 unfold tail;split
 ·omega
 ·rw[List.length_append,R.dr];exact aq _
theorem cZ (nm:B) (i:Nat) (p:B) (t:Nat):(cy nm i p t).length<=nm.length+p.length+7:=by
 unfold cy;rw[List.length_append];have:=ia nm i;have:=Oh i p t;omega
theorem vN (nm:B):own nm≠cK nm:=λe=>by
 have:=List.append_cancel_left e;cases this
theorem gM (nm:B) (i:Nat):∃a x,pre nm i=nm++0::a::x/\(a=80\/a=75)/\(i=0↔a=80):=by
 unfold pre;split
 ·rename_i h;exact⟨80,[],rfl, .inl rfl,by simp[h]⟩
 ·rename_i h;exact⟨75,[UInt8.ofNat i],rfl, .inr rfl,by simp[h]⟩
theorem fA (nm:B) (i:Nat) (p:B) (t:Nat):own nm≠cy nm i p t:=λe=>by
 obtain⟨a,x,h,ha,_⟩:=gM nm i;unfold own cy at e;rw[h,List.append_assoc]at e;have:=List.append_cancel_left e;simp only[List.cons_append,List.cons.injEq,true_and]at this;rcases ha with rfl|rfl<;>exact absurd this.1 (by decide)
theorem iE (nm:B) (i:Nat) (p:B) (t:Nat):cK nm≠cy nm i p t:=λe=>by
 obtain⟨a,x,h,ha,_⟩:=gM nm i;unfold cK cy at e;rw[h,List.append_assoc]at e;have:=List.append_cancel_left e;simp only[List.cons_append,List.cons.injEq,true_and]at this;rcases ha with rfl|rfl<;>exact absurd this.1 (by decide)
theorem lB {nm x y:B} {i j:Nat} (m:i<256) (n:j<256) (h:pre nm i++x=pre nm j++y):i=j:=by
 obtain⟨a,u,h1,l,c⟩:=gM nm i;obtain⟨b,v,f,o,g⟩:=gM nm j;by_cases d:i=0
 ·have ha:=c.1 d;rw[h1,f,List.append_assoc,List.append_assoc]at h;have:=List.append_cancel_left h;simp only[List.cons_append,List.cons.injEq,true_and]at this;have:=g.2 (by rw[<-this.1,ha]);omega
 ·by_cases e:j=0
  ·have k:=g.1 e;rw[h1,f,List.append_assoc,List.append_assoc]at h;have:=List.append_cancel_left h;simp only[List.cons_append,List.cons.injEq,true_and]at this;have:=c.2 (by rw[this.1,k]);omega
  ·unfold pre at h;rw[if_neg d,if_neg e,List.append_assoc,List.append_assoc]at h;have:=List.append_cancel_left h;simp only[List.cons_append,List.cons.injEq,true_and]at this;have:=congrArg UInt8.toNat this.1;rw[UInt8.toNat_ofNat',UInt8.toNat_ofNat']at this;omega
theorem Oi {i:Nat} {p q:B} {t s:Nat} (e:t<4294967296) (d:s<4294967296) (f:i=0->t=s) (h:tail i p t=tail i q s):p=q/\t=s:=by
 unfold tail at h;by_cases a:i=0
 ·rw[if_pos a,if_pos a]at h;exact⟨h,f a⟩
 ·rw[if_neg a,if_neg a]at h;have c:p.length=q.length:=(by have:=congrArg List.length h;simpa [R.dr] using this);obtain⟨h1,b⟩:=List.append_inj h c;exact⟨h1,R.TU e d b⟩
theorem nR {nm:B} {i j:Nat} {p q:B} {t s:Nat} (a:i<256) (b:j<256) (d:t<4294967296) (c:s<4294967296) (f:i=0->t=0) (g:j=0->s=0) (h:cy nm i p t=cy nm j q s):i=j/\p=q/\t=s:=by
 have e:=lB a b h;subst e;exact⟨rfl,Oi d c (λh=>by rw[f h,g h]) (List.append_cancel_left h)⟩
theorem Oj {nm:B} {i:Nat} {p q:B} {t s:Nat} (b:p.length=q.length) (d:t<4294967296) (c:s<4294967296) (e:i=0->t=s):cy nm i p t<cy nm i q s↔p<q\/p=q/\t<s:=by
 unfold cy tail;rw[R.FL];by_cases a:i=0
 ·have:=e a;rw[if_pos a,if_pos a];constructor
  ·exactλh=> .inl h
  ·rintro(h|⟨_,h⟩)
   ·exact h
   ·omega
 ·rw[if_neg a,if_neg a,Jh _ _ _ _ b,R.Zj d c]
theorem lC (p:B) (x y:B):(p++x).isPrefixOf (p++y)=x.isPrefixOf y:=by
 induction p with
 |nil=>rfl
 |cons a p b=>simp only[List.cons_append,List.isPrefixOf,b,beq_self_eq_true,Bool.true_and]
theorem jR {nm:B} {i:Nat} (v:B) {k:B} (h:Lib.hasPrefix k (pre nm i++v)=true):∃x,k=pre nm i++(v++x):=by
 unfold Lib.hasPrefix at h;obtain⟨x,a⟩:=List.isPrefixOf_iff_prefix.1 h;exact⟨x,by rw[<-a,List.append_assoc]⟩
theorem CF {i:Nat} {p v:B} {t:Nat} (a:v.length<=p.length):v.isPrefixOf (tail i p t)=decide (p.take v.length=v):=by
 rw[Bool.eq_iff_iff,List.isPrefixOf_iff_prefix,decide_eq_true_eq,List.prefix_iff_eq_take];have e:(tail i p t).take v.length=p.take v.length:=by
  unfold tail;split
  ·rfl
  ·rw[List.take_append_of_le_length a]
 rw[e];exact eq_comm
theorem dP {nm:B} {i:Nat} {p v:B} {t:Nat} (a:v.length<=p.length):Lib.hasPrefix (cy nm i p t) (pre nm i++v)=decide (p.take v.length=v):=by
 unfold Lib.hasPrefix cy;rw[lC,CF a]
theorem pE (nm v:B) (i:Nat):Lib.hasPrefix (own nm) (pre nm i++v)=false:=by
 rw[Bool.eq_false_iff];intro h;obtain⟨x,b⟩:=jR v h;obtain⟨a,y,h1,ha,_⟩:=gM nm i;unfold own at b;rw[h1,List.append_assoc]at b;have:=List.append_cancel_left b;simp only[List.cons_append,List.cons.injEq,true_and]at this;rcases ha with rfl|rfl<;>exact absurd this.1 (by decide)
theorem vO (nm v:B) (i:Nat):Lib.hasPrefix (cK nm) (pre nm i++v)=false:=by
 rw[Bool.eq_false_iff];intro h;obtain⟨x,b⟩:=jR v h;obtain⟨a,y,h1,ha,_⟩:=gM nm i;unfold cK at b;rw[h1,List.append_assoc]at b;have:=List.append_cancel_left b;simp only[List.cons_append,List.cons.injEq,true_and]at this;rcases ha with rfl|rfl<;>exact absurd this.1 (by decide)
theorem fe {nm v:B} {i j:Nat} (a:i<256) (c:j<256) (b:i≠j) (p:B) (t:Nat):Lib.hasPrefix (cy nm j p t) (pre nm i++v)=false:=by
 rw[Bool.eq_false_iff];intro h;obtain⟨x,d⟩:=jR v h;exact b (lB c a d).symm
structure fo (nm a:B) (n c:Nat) (lens:Nat->Nat) (Pp:B->B->Prop) (Ee:Nat->B->Nat->B->Prop) (now:List (B×B)):Prop where
 asc:J.sA now
 own:J.look now (own nm)=some a
 tim:J.look now (cK nm)=if 0<c then some (R.cp c)else none
 pri:∀p v,J.look now (cy nm 0 p 0)=some v↔Pp p v
 alt:∀i p t q,1<=i->i<n->t<4294967296->(J.look now (cy nm i p t)=some q↔Ee i p t q)
 oth:∀k,J.look now k≠none->k=X.own nm\/k=cK nm\/(∃p,k=cy nm 0 p 0)\/∃i p t,1<=i/\i<n/\t<4294967296/\k=cy nm i p t
 len0:∀p v,Pp p v->p.length=lens 0
 lenE:∀i p t q,Ee i p t q->p.length=lens i
section
variable {nm a : B} {n c : Nat} {lens : Nat -> Nat} {Pp : B -> B -> Prop} {Ee : Nat -> B -> Nat -> B -> Prop} {now : List (B × B)}
theorem Ol (nm a:B) (n:Nat) (lens:Nat->Nat):fo nm a n 0 lens (λ_ _=>False) (λ_ _ _ _=>False) (J.ins [] (own nm) a):=by
 refine⟨J.lh J.nO _ _,by rw[J.cz,if_pos rfl], ?_,λp v=> ?_,λi p t q _ _ _=> ?_,λk b=> ?_,λ_ _ h=>h.elim,λ_ _ _ _ h=>h.elim⟩
 ·rw[J.cz,if_neg (vN nm).symm];rfl
 ·rw[J.cz,if_neg (fA nm 0 p 0).symm];exact⟨(λh=>by cases h),λh=>h.elim⟩
 ·rw[J.cz,if_neg (fA nm i p t).symm];exact⟨(λh=>by cases h),λh=>h.elim⟩
 ·rw[J.cz]at b;by_cases e:k=X.own nm
  ·exact .inl e
  ·rw[if_neg e]at b;exact absurd rfl b
theorem fo.time (h:fo nm a n c lens Pp Ee now) {c':Nat} (g:0<c'):fo nm a n c' lens Pp Ee (J.ins now (cK nm) (R.cp c')):=by
 refine⟨J.lh h.asc _ _, ?_, ?_,λp v=> ?_,λi p t q h1 d f=> ?_,λk b=> ?_,h.len0,h.lenE⟩
 ·rw[J.cz,if_neg (vN nm)];exact h.own
 ·rw[J.cz,if_pos rfl,if_pos g]
 ·rw[J.cz,if_neg (iE nm 0 p 0).symm];exact h.pri p v
 ·rw[J.cz,if_neg (iE nm i p t).symm];exact h.alt i p t q h1 d f
 ·rw[J.cz]at b;by_cases e:k=cK nm
  ·exact .inr (.inl e)
  ·rw[if_neg e]at b;exact h.oth k b
theorem fo.record (h:fo nm a n c lens Pp Ee now) (l:n<=256) {p0 v0:B} (j:p0.length=lens 0):fo nm a n c lens (λp v=>(p=p0/\v=v0)\/(p≠p0/\Pp p v)) Ee (J.ins now (cy nm 0 p0 0) v0):=by
 refine⟨J.lh h.asc _ _, ?_, ?_,λp v=> ?_,λi p t q h1 f g=> ?_,λk b=> ?_,λp v d=> ?_,h.lenE⟩
 ·rw[J.cz,if_neg (fA nm 0 p0 0)];exact h.own
 ·rw[J.cz,if_neg (iE nm 0 p0 0)];exact h.tim
 ·rw[J.cz];by_cases e:p=p0
  ·subst e;rw[if_pos rfl];constructor
   ·intro hh;injection hh with hh;exact .inl ⟨rfl,hh.symm⟩
   ·rintro(⟨_,rfl⟩|⟨hh,_⟩)
    ·rfl
    ·exact absurd rfl hh
  ·rw[if_neg (λhh=>e (nR (by decide) (by decide) (by decide) (by decide) (λ_=>rfl) (λ_=>rfl) hh).2.1),h.pri p v];constructor
   ·exactλhh=> .inr ⟨e,hh⟩
   ·rintro(⟨hh,_⟩|⟨_,hh⟩)
    ·exact absurd hh e
    ·exact hh
 ·rw[J.cz,if_neg (λhh=>by have:=lB (by omega) (by omega) hh;omega)];exact h.alt i p t q h1 f g
 ·rw[J.cz]at b;by_cases e:k=cy nm 0 p0 0
  ·exact .inr (.inr (.inl ⟨p0,e⟩))
  ·rw[if_neg e]at b;exact h.oth k b
 ·rcases d with⟨rfl,_⟩|⟨_,d⟩
  ·exact j
  ·exact h.len0 p v d
theorem fo.Om (h:fo nm a n c lens Pp Ee now) (j:n<=256) (p0:B):fo nm a n c lens (λp v=>p≠p0/\Pp p v) Ee (J.del now (cy nm 0 p0 0)):=by
 refine⟨J.nN h.asc _, ?_, ?_,λp v=> ?_,λi p t q h1 d f=> ?_,λk b=> ?_,λp v g=>h.len0 p v g.2,h.lenE⟩
 ·rw[J.bX,if_neg (fA nm 0 p0 0)];exact h.own
 ·rw[J.bX,if_neg (iE nm 0 p0 0)];exact h.tim
 ·rw[J.bX];by_cases e:p=p0
  ·subst e;rw[if_pos rfl];exact⟨(λhh=>by cases hh),λhh=>absurd rfl hh.1⟩
  ·rw[if_neg (λhh=>e (nR (by decide) (by decide) (by decide) (by decide) (λ_=>rfl) (λ_=>rfl) hh).2.1),h.pri p v];exact⟨λhh=>⟨e,hh⟩,λhh=>hh.2⟩
 ·rw[J.bX,if_neg (λhh=>by have:=lB (by omega) (by omega) hh;omega)];exact h.alt i p t q h1 d f
 ·rw[J.bX]at b;by_cases e:k=cy nm 0 p0 0
  ·rw[if_pos e]at b;exact absurd rfl b
  ·rw[if_neg e]at b;exact h.oth k b
theorem fo.entry (h:fo nm a n c lens Pp Ee now) (o:n<=256) {i0:Nat} (j:1<=i0/\i0<n) {p0 q0:B} {t0:Nat} (l:t0<4294967296) (m:p0.length=lens i0):
  fo nm a n c lens Pp (λi p t q=>(i=i0/\p=p0/\t=t0/\q=q0)\/(¬(i=i0/\p=p0/\t=t0)/\Ee i p t q)) (J.ins now (cy nm i0 p0 t0) q0):=by
 refine⟨J.lh h.asc _ _, ?_, ?_,λp v=> ?_,λi p t q h1 d b=> ?_,λk f=> ?_,h.len0,λi p t q g=> ?_⟩
 ·rw[J.cz,if_neg (fA nm i0 p0 t0)];exact h.own
 ·rw[J.cz,if_neg (iE nm i0 p0 t0)];exact h.tim
 ·rw[J.cz,if_neg (λhh=>by have:=lB (by omega) (by omega) hh;omega)];exact h.pri p v
 ·rw[J.cz];by_cases e:i=i0/\p=p0/\t=t0
  ·rw[if_pos (by rw[e.1,e.2.1,e.2.2])];constructor
   ·intro hh;injection hh with hh;exact .inl ⟨e.1,e.2.1,e.2.2,hh.symm⟩
   ·rintro(⟨_,_,_,rfl⟩|⟨hh,_⟩)
    ·rfl
    ·exact absurd e hh
  ·rw[if_neg (λhh=>e (nR (by omega) (by omega) b l (λh=>by omega) (λh=>by omega) hh)),h.alt i p t q h1 d b];constructor
   ·exactλhh=> .inr ⟨e,hh⟩
   ·rintro(⟨h1,d,b,_⟩|⟨_,hh⟩)
    ·exact absurd ⟨h1,d,b⟩ e
    ·exact hh
 ·rw[J.cz]at f;by_cases e:k=cy nm i0 p0 t0
  ·exact .inr (.inr (.inr ⟨i0,p0,t0,j.1,j.2,l,e⟩))
  ·rw[if_neg e]at f;exact h.oth k f
 ·rcases g with⟨rfl,rfl,_⟩|⟨_,g⟩
  ·exact m
  ·exact h.lenE i p t q g
theorem fo.Jj (h:fo nm a n c lens Pp Ee now) (m:n<=256) {i0:Nat} (l:1<=i0/\i0<n) (p0:B) {t0:Nat} (j:t0<4294967296):
  fo nm a n c lens Pp (λi p t q=>¬(i=i0/\p=p0/\t=t0)/\Ee i p t q) (J.del now (cy nm i0 p0 t0)):=by
 refine⟨J.nN h.asc _, ?_, ?_,λp v=> ?_,λi p t q h1 f d=> ?_,λk b=> ?_,h.len0,λi p t q g=>h.lenE i p t q g.2⟩
 ·rw[J.bX,if_neg (fA nm i0 p0 t0)];exact h.own
 ·rw[J.bX,if_neg (iE nm i0 p0 t0)];exact h.tim
 ·rw[J.bX,if_neg (λhh=>by have:=lB (by omega) (by omega) hh;omega)];exact h.pri p v
 ·rw[J.bX];by_cases e:i=i0/\p=p0/\t=t0
  ·rw[if_pos (by rw[e.1,e.2.1,e.2.2])];exact⟨(λhh=>by cases hh),λhh=>absurd e hh.1⟩
  ·rw[if_neg (λhh=>e (nR (by omega) (by omega) d j (λh=>by omega) (λh=>by omega) hh)),h.alt i p t q h1 f d];exact⟨λhh=>⟨e,hh⟩,λhh=>hh.2⟩
 ·rw[J.bX]at b;by_cases e:k=cy nm i0 p0 t0
  ·rw[if_pos e]at b;exact absurd rfl b
  ·rw[if_neg e]at b;exact h.oth k b
theorem fo.same (h:fo nm a n c lens Pp Ee now) {d:B->B->Prop} {b:Nat->B->Nat->B->Prop} (f:∀p v,d p v↔Pp p v) (j:∀i p t q,1<=i->i<n->(b i p t q↔Ee i p t q)) (k:∀i p t q,b i p t q->p.length=lens i):fo nm a n c lens d b now:=
 ⟨h.asc,h.own,h.tim,λp v=>(h.pri p v).trans (f p v).symm,λi p t q h1 e g=>(h.alt i p t q h1 e g).trans (j i p t q h1 e).symm,h.oth,λp v hh=>h.len0 p v ((f p v).1 hh),k⟩
end
end X
namespace X
structure Ky where
 at_:Nat
 len:Nat
 dup:Bool
structure Row where
 b:B
 ts:List Nat
def Ky.val (k:Ky) (b:B):B:=(b.drop k.at_).take k.len
def aH (ks:List Ky) (i:Nat):Ky:=ks.getD i ⟨0,0,false⟩
def val (ks:List Ky) (i:Nat) (b:B):B:=(aH ks i).val b
def Row.t (r:Row) (i:Nat):Nat:=r.ts.getD i 0
def lens (ks:List Ky) (i:Nat):Nat:=(aH ks i).len
def mD (ks:List Ky) (i:Nat) (x y:Row):Bool:=decide (val ks i x.b<val ks i y.b)||(decide (val ks i x.b=val ks i y.b)&&decide (x.t i<y.t i))
theorem qK {ks:List Ky} {i:Nat} {x y:Row}:mD ks i x y=true↔val ks i x.b<val ks i y.b\/val ks i x.b=val ks i y.b/\x.t i<y.t i:=by
 unfold mD;simp
theorem yL {ks:List Ky} {i:Nat} {x y z:Row} (h:mD ks i x y=true) (k:mD ks i y z=true):mD ks i x z=true:=by
 rw[qK]at h k|-;rcases h with h|⟨h1,b⟩<;>rcases k with k|⟨a,c⟩
 ·exact .inl (List.lt_trans h k)
 ·exact .inl (by rw[<-a];exact h)
 ·exact .inl (by rw[h1];exact k)
 ·exact .inr ⟨h1.trans a,Nat.lt_trans b c⟩
theorem KP {ks:List Ky} {i:Nat} {x y:Row} (h:¬mD ks i x y=true) (hd:val ks i x.b≠val ks i y.b\/x.t i≠y.t i):mD ks i y x=true:=by
 rw[qK]at h|-;by_cases e:val ks i x.b=val ks i y.b
 ·refine .inr ⟨e.symm, ?_⟩;have h1:¬x.t i<y.t i:=λhh=>h (.inr ⟨e,hh⟩);have a:x.t i≠y.t i:=hd.resolve_left (λhh=>hh e);omega
 ·exact .inl (J.NX _ _ (λhh=>h (.inl hh)) e)
def sH (ks:List Ky) (i:Nat) (x:Row):List Row->List Row
 |[]=>[x]
 |y::t=>if mD ks i y x then y::sH ks i x t else x::y::t
def cn (ks:List Ky) (i:Nat) (rows:List Row):List Row:=rows.foldl (λl x=>sH ks i x l) []
theorem CG (ks:List Ky) (i:Nat) (x z:Row) (l:List Row):z∈sH ks i x l↔z=x\/z∈l:=by
 induction l with
 |nil=>simp[sH]
 |cons y t a=>
  unfold sH;split
  ·rw[List.mem_cons,a,List.mem_cons];constructor
   ·rintro(h|h|h)
    ·exact .inr (.inl h)
    ·exact .inl h
    ·exact .inr (.inr h)
   ·rintro(h|h|h)
    ·exact .inr (.inl h)
    ·exact .inl h
    ·exact .inr (.inr h)
  ·rw[List.mem_cons]
theorem Oo (ks:List Ky) (i:Nat) (x:Row) (l:List Row):(sH ks i x l).length=l.length+1:=by
 induction l with
 |nil=>rfl
 |cons y t a=>
  unfold sH;split
  ·simp[a]
  ·rfl
theorem TV (ks:List Ky) (i:Nat) (x:Row) (l:List Row):sH ks i x l=l.takeWhile (mD ks i · x)++x::l.dropWhile (mD ks i · x):=by
 induction l with
 |nil=>rfl
 |cons y t a=>
  unfold sH;rw[List.takeWhile_cons,List.dropWhile_cons];split
  ·rw[a];rfl
  ·rfl
theorem Oq (ks:List Ky) (i:Nat) (x:Row) (l:List Row) (h:l.Pairwise (mD ks i · ·)) (hd:∀y∈l,val ks i y.b≠val ks i x.b\/y.t i≠x.t i):(sH ks i x l).Pairwise (mD ks i · ·):=by
 induction l with
 |nil=>exact List.pairwise_singleton _ _
 |cons y t d=>
  obtain⟨h1,c⟩:=List.pairwise_cons.1 h;unfold sH;split
  ·rename_i hy
   refine List.pairwise_cons.2 ⟨λz a=> ?_,d c (λz a=>hd z (ag _ a))⟩;rcases(CG ks i x z t).1 a with rfl|a
   ·exact hy
   ·exact h1 z a
  ·rename_i hy
   have b:=KP hy (hd y af);refine List.pairwise_cons.2 ⟨λz a=> ?_,h⟩;rcases au a with rfl|a
   ·exact b
   ·exact yL b (h1 z a)
theorem qL (ks:List Ky) (i:Nat) (rows:List Row) (x:Row):cn ks i (rows++[x])=sH ks i x (cn ks i rows):=by
 unfold cn;rw[List.foldl_append];rfl
theorem qM {b:Type} {P:List b->Prop} (h0:P []) (h1:∀l x,P l->P (l++[x])):∀l,P l:=by
 intro l;have:∀n (l:List b),l.length=n->P l:=by
  intro n
  induction n with
  |zero=>intro l a;rw[List.eq_nil_of_length_eq_zero a];exact h0
  |succ n d=>
   intro l a;have c:l≠[]:=(by intro e;rw[e]at a;cases a);rw[<-List.dropLast_concat_getLast c];exact h1 _ _ (d _ (by rw[List.length_dropLast,a];rfl))
 exact this _ l rfl
theorem bD (ks:List Ky) (i:Nat) (z:Row) (rows:List Row):z∈cn ks i rows↔z∈rows:=by
 induction rows using qM with
 |h0=>rfl
 |h1 l x a=>
  rw[qL,CG,a,List.mem_append,List.mem_singleton];exact or_comm
theorem qN (ks:List Ky) (i:Nat) (rows:List Row):(cn ks i rows).length=rows.length:=by
 induction rows using qM with
 |h0=>rfl
 |h1 l x a=>rw[qL,Oo,a,List.length_append];rfl
theorem lD (ks:List Ky) (i:Nat) (rows:List Row) (h:rows.Pairwise λx y=>val ks i x.b≠val ks i y.b\/x.t i≠y.t i):(cn ks i rows).Pairwise (mD ks i · ·):=by
 induction rows using qM with
 |h0=>exact List.Pairwise.nil
 |h1 l x c=>
  obtain⟨h1,_,a⟩:=List.pairwise_append.1 h;rw[qL];exact Oq ks i x _ (c h1) (λy b=>a y ((bD ks i y l).1 b) x (List.mem_singleton_self _))
def bt (ks:List Ky) (size:Nat) (b:B):Bool:=decide (b.length<=size)&&ks.all λk=>decide (k.at_+k.len<=b.length)
theorem aS {ks:List Ky} {size:Nat} {b:B}:bt ks size b=true↔b.length<=size/\∀k∈ks,k.at_+k.len<=b.length:=by
 unfold bt;simp
theorem aY {ks:List Ky} {i:Nat} (h:i<ks.length):aH ks i∈ks:=by
 unfold aH;rw[List.getD_eq_getElem?_getD,List.getElem?_eq_getElem h];exact List.getElem_mem h
theorem bc {ks:List Ky} {size:Nat} {b:B} (h:bt ks size b=true) {i:Nat} (a:i<ks.length):(val ks i b).length=lens ks i:=by
 have:=(aS.1 h).2 _ (aY a);unfold val lens Ky.val;rw[List.length_take,List.length_drop];omega
structure aQ (ks:List Ky) (size time:Nat) (rows:List Row):Prop where
 fit:∀r∈rows,bt ks size r.b=true
 tl:∀r∈rows,r.ts.length=ks.length
 t0:∀r∈rows,r.t 0=0
 tp:∀r∈rows,∀i,1<=i->i<ks.length->1<=r.t i/\r.t i<=time
 prim:rows.Pairwise λx y=>val ks 0 x.b≠val ks 0 y.b
 tm:∀i,1<=i->i<ks.length->rows.Pairwise λx y=>x.t i≠y.t i
 nodup:∀i,1<=i->i<ks.length->(aH ks i).dup=false->rows.Pairwise λx y=>val ks i x.b≠val ks i y.b
structure eC (ks:List Ky) (size:Nat):Prop where
 one:1<=ks.length/\ks.length<=8
 key:∀k∈ks,1<=k.len/\k.len<=160/\k.at_+k.len<=size
 size:1<=size/\size<=4096
 first:(aH ks 0).dup=false
def Pp (ks:List Ky) (rows:List Row) (p v:B):Prop:=∃r∈rows,val ks 0 r.b=p/\r.b=v
def Ee (ks:List Ky) (rows:List Row) (i:Nat) (p:B) (t:Nat) (q:B):Prop:=∃r∈rows,val ks i r.b=p/\r.t i=t/\val ks 0 r.b=q/\i<ks.length
section
variable {ks : List Ky} {size time : Nat} {rows : List Row} {nm a : B} {c : Nat} {now : List (B × B)}
theorem aQ.CH (h:aQ ks size time rows) {i:Nat} (a:i<ks.length):rows.Pairwise λx y=>val ks i x.b≠val ks i y.b\/x.t i≠y.t i:=by
 by_cases h0:i=0
 ·subst h0;exact h.prim.imp (λhh=> .inl hh)
 ·exact(h.tm i (by omega) a).imp (λhh=> .inr hh)
theorem aQ.t32 (h:aQ ks size time rows) (c:time<4294967296) {r:Row} (a:r∈rows) {i:Nat} (b:i<ks.length):r.t i<4294967296:=by
 by_cases h0:i=0
 ·subst h0;rw[h.t0 r a];decide
 ·have:=h.tp r a i (by omega) b;omega
theorem zU (h:aQ ks size time rows) (d:time<4294967296) {i:Nat} (a:i<ks.length) {x y:Row} (b:x∈rows) (c:y∈rows):cy nm i (val ks i x.b) (x.t i)<cy nm i (val ks i y.b) (y.t i)↔mD ks i x y=true:=by
 rw[qK];exact Oj ((bc (h.fit x b) a).trans (bc (h.fit y c) a).symm) (h.t32 d b a) (h.t32 d c a) (λe=>by subst e;rw[h.t0 x b,h.t0 y c])
def iF (nm a:B) (ks:List Ky) (rows:List Row) (c:Nat) (now:List (B×B)):Prop:=fo nm a ks.length c (lens ks) (Pp ks rows) (Ee ks rows) now
theorem iF.CJ (h:iF nm a ks rows c now) (f:aQ ks size time rows) (g:time<4294967296) {i:Nat} (d:i<ks.length) {r:Row} (b:r∈rows):J.look now (cy nm i (val ks i r.b) (r.t i))≠none:=by
 by_cases h0:i=0
 ·subst h0;rw[f.t0 r b,(h.pri _ _).2 ⟨r,b,rfl,rfl⟩];intro e;cases e
 ·rw[(h.alt i _ _ _ (by omega) d (f.t32 g b d)).2 ⟨r,b,rfl,rfl,rfl,d⟩];intro e;cases e
theorem iF.keys (h:iF nm a ks rows c now) (G:ks.length<=256) (f:aQ ks size time rows) (w:time<4294967296) {i:Nat} (g:i<ks.length) (v:B) (n:v.length<=lens ks i):
  (now.map (·.1)).filter (λk=>Lib.hasPrefix k (pre nm i++v))=((cn ks i rows).filter λr=>decide ((val ks i r.b).take v.length=v)).map λr=>cy nm i (val ks i r.b) (r.t i):=by
 refine lA _ _ (List.Pairwise.filter _ (List.pairwise_map.2 h.asc)) ?_ (λk=> ?_)
 ·rw[List.pairwise_map];refine List.Pairwise.imp_of_mem (λ{x y} o q F=> ?_) (List.Pairwise.filter _ (lD ks i rows (f.CH g)));have o:=(bD ks i x rows).1 (List.mem_filter.1 o).1;have q:=(bD ks i y rows).1 (List.mem_filter.1 q).1;exact(zU f w g o q).2 F
 ·rw[List.mem_filter];constructor
  ·rintro⟨z,b⟩;refine List.mem_map.2 ?_;obtain⟨⟨s,x⟩,C,rfl⟩:=List.mem_map.1 z;have b:Lib.hasPrefix s (pre nm i++v)=true:=b;have l:=J.eU now s x h.asc C;rcases h.oth s (by rw[l];intro e;cases e)with rfl|rfl|⟨p,rfl⟩|⟨j,p,t,j1,j2,CM,rfl⟩
   ·rw[pE]at b;cases b
   ·rw[vO]at b;cases b
   ·by_cases h0:i=0
    ·subst h0;obtain⟨r,d,e1,e2⟩:=(h.pri p x).1 l;have m:v.length<=p.length:=(by rw[<-e1,bc (f.fit r d) g];exact n);rw[dP m]at b;refine⟨r,List.mem_filter.2 ⟨(bD ks 0 r rows).2 d,by rw[e1];exact b⟩,by rw[e1,f.t0 r d]⟩
    ·rw[fe (by omega) (by decide) h0]at b;cases b
   ·by_cases u:i=j
    ·subst u;obtain⟨r,d,e1,e2,e3,_⟩:=(h.alt i p t x j1 j2 CM).1 l;have m:v.length<=p.length:=(by rw[<-e1,bc (f.fit r d) g];exact n);rw[dP m]at b;refine⟨r,List.mem_filter.2 ⟨(bD ks i r rows).2 d,by rw[e1];exact b⟩,by rw[e1,e2]⟩
    ·rw[fe (by omega) (by omega) u]at b;cases b
  ·intro A;obtain⟨r,E,rfl⟩:=List.mem_map.1 A;obtain⟨d,hd⟩:=List.mem_filter.1 E;have d:=(bD ks i r rows).1 d;have m:v.length<=(val ks i r.b).length:=(by rw[bc (f.fit r d) g];exact n);refine⟨?_,by rw[dP m];exact hd⟩;have D:=h.CJ f w g d;cases l:J.look now (cy nm i (val ks i r.b) (r.t i))with
   |none=>exact absurd l D
   |some x=>exact List.mem_map.2 ⟨_,J.eI now _ x l,rfl⟩
end
end X
namespace X
structure M where
 ks:List Ky
 size:Nat
 there:Bool
 rows:List Row
 time:Nat
 mode:Nat
 ord:Bool
 key:Nat
 lost:Bool
 value:B
 at_:Nat
 same:Bool
 last:B
 read:Bool
 written:B
abbrev good:B:=[48,48]
def M.new (ks:List Ky) (size:Nat):M:=⟨ks,size,false,[],0,0,false,0,false,[],0,false,[],false,[]⟩
def Xp (k:Ky):B:=R.cp k.at_++R.cp k.len++[if k.dup then 1 else 0]
def attr (size:Nat) (ks:List Ky):B:=2::R.cp size++ks.flatMap Xp
theorem TW (k:Ky):(Xp k).length=9:=by simp[Xp,R.dr]
theorem CN (ks:List Ky):(ks.flatMap Xp).length=9*ks.length:=by
 induction ks with
 |nil=>rfl
 |cons k t a=>rw[List.flatMap_cons,List.length_append,a,TW,List.length_cons];omega
theorem gN (size:Nat) (ks:List Ky):(attr size ks).length=5+9*ks.length:=by
 unfold attr;rw[List.cons_append,List.length_cons,List.length_append,R.dr,CN];omega
def M.con (nm:B) (m:M) (now:List (B×B)):Prop:=if m.there then iF nm (attr m.size m.ks) m.ks m.rows m.time now else now=[]
structure fg (u:Nat) (m:M):Prop where
 ks:eC m.ks m.size
 rows:aQ m.ks m.size m.time m.rows
 none:m.there=false->m.rows=[]/\m.mode=0/\m.time=0
 many:m.rows.length<=u
 time:m.time<=u
 key:m.key<m.ks.length
 pos:m.lost=false->(m.key=0/\m.value=[]/\m.at_=0)\/(m.value.length=lens m.ks m.key/\(m.key=0->m.at_=0))
 at_:m.at_<=u
 mode:m.mode<=4
theorem fg.mono {u v:Nat} {m:M} (h:fg u m) (a:u<=v):fg v m:=
 ⟨h.ks,h.rows,h.none,aw h.many a,aw h.time a,h.key,h.pos,aw h.at_ a,h.mode⟩
theorem TX {ks:List Ky} {size:Nat} (h:eC ks size):fg 0 (M.new ks size):=
 ⟨h,⟨λ_ h=>(by cases h),λ_ h=>(by cases h),λ_ h=>(by cases h),λ_ h=>(by cases h),List.Pairwise.nil,λ_ _ _=>List.Pairwise.nil,λ_ _ _ _=>List.Pairwise.nil⟩,λ_=>⟨rfl,rfl,rfl⟩,aq _,aq _,h.one.1,λ_=> .inl ⟨rfl,rfl,rfl⟩,aq _,Nat.zero_le _⟩
def bP (dB:B) (acQ:List Nat) (mode:Nat):B:=if mode=0 then [52,50]else if mode∈acQ then good else dB
def mR (ks:List Ky) (rows:List Row):B:=match(cn ks 0 rows).getLast? with
 |some r=>val ks 0 r.b
 |none=>[]
def M.opened (m:M) (md:Nat) (ord:Bool):M:=
 {m with there:=true,rows:=if md=2 then []else m.rows,time:=if md=2 then 0 else m.time,mode:=md,ord:=ord,key:=0,lost:=false,value:=[],at_:=0,same:=true,read:=false,written:=if md=4 then mR m.ks m.rows else []}
def M.open (m:M) (md:Nat) (ord:Bool):M×B:=
 if md<1\/4<md then(m,[51,48])else if m.mode≠0 then(m,[52,49])else if md≠2/\m.there=false then(m,[51,53])else(m.opened md ord,good)
def M.close (m:M):M×B:=if m.mode=0 then(m,[52,50])else({m with mode:=0},good)
def M.dW (m:M):M:={m with lost:=true,read:=false}
def M.more (m:M) (r:Row):Bool:=match(cn m.ks m.key m.rows).find? (mD m.ks m.key r ·)with
 |some x=>decide (val m.ks m.key x.b=val m.ks m.key r.b)
 |none=>false
def M.take (m:M) (r:Row):M:={m with lost:=false,value:=val m.ks m.key r.b,at_:=r.t m.key,same:=false,last:=val m.ks 0 r.b,read:=true}
def M.qO (m:M) (r:Row):B:=if 0<m.key/\m.more r=true then [48,50]else good
def uE (ks:List Ky) (i:Nat) (v:B) (t:Nat) (same:Bool) (r:Row):Bool:=decide (v<val ks i r.b)||(decide (v=val ks i r.b)&&(decide (t<r.t i)||(decide (r.t i=t)&&same)))
def M.at (m:M):Option Row:=(cn m.ks m.key m.rows).find? (uE m.ks m.key m.value m.at_ m.same)
def M.next (m:M):M×Option B×B:=
 if bP [52,55] [1,3] m.mode≠good then(m,none,bP [52,55] [1,3] m.mode)
 else if m.lost=true then({m with read:=false},none,[52,54])
 else match m.at with
 |some r=>(m.take r,some r.b,m.qO r)
 |none=>(m.dW,none,[49,48])
def M.lF (m:M) (i:Nat) (v:B):Option Row:=(cn m.ks i m.rows).find? λr=>decide (val m.ks i r.b=v)
def M.keyed (m:M) (i:Nat):M:={m with key:=i}
def M.get (m:M) (k:Int) (b:B):M×Option B×B:=
 if bP [52,55] [1,3] m.mode≠good then(m,none,bP [52,55] [1,3] m.mode)
 else if k<0\/m.ks.length<=k then(m.dW,none,[50,51])
 else if b.length<(aH m.ks k.toNat).at_+(aH m.ks k.toNat).len then(m.dW,none,[52,52])
 else match m.lF k.toNat (val m.ks k.toNat b)with
 |some r=>((m.dW.keyed k.toNat).take r,some r.b,(m.dW.keyed k.toNat).qO r)
 |none=>(m.dW,none,[50,51])
def M.find (m:M) (p:B):Option Row:=m.rows.find? λr=>decide (val m.ks 0 r.b=p)
def keeps (ks:List Ky) (i:Nat) (b:B) (old:Option Row):Bool:=match old with
 |some o=>decide (val ks i o.b=val ks i b)
 |none=>false
def M.cT (m:M) (i:Nat) (b:B) (old:Option Row):Bool:= !keeps m.ks i b old&&m.rows.any λr=>decide (val m.ks i r.b=val m.ks i b)
def M.dh (m:M) (b:B) (old:Option Row):B:=
 if(List.range' 1 (m.ks.length - 1)).any (λi=>m.cT i b old&& !(aH m.ks i).dup)then [50,50]
 else if(List.range' 1 (m.ks.length - 1)).any (λi=>m.cT i b old)then [48,50]else good
def M.times (m:M) (b:B) (old:Option Row):List Nat:=(List.range m.ks.length).map λi=>if i=0 then 0 else match old with
 |some o=>if val m.ks i o.b=val m.ks i b then o.t i else m.time+1
 |none=>m.time+1
def M.put (m:M) (b:B) (old:Option Row):M:={m with rows:=(m.rows.filter λr=>decide (val m.ks 0 r.b≠val m.ks 0 b))++[⟨b,m.times b old⟩],time:=m.time+1}
def M.aG (m:M):M:={m with read:=false}
def M.write (m:M) (b:B):M×B:=
 if bP [52,56] [2,4,3] m.mode≠good then(m,bP [52,56] [2,4,3] m.mode)
 else if bt m.ks m.size b=false then(m.aG,[52,52])
 else if m.ord=true/\m.mode≠3/\¬m.written<val m.ks 0 b then(m.aG,[50,49])
 else if(m.find (val m.ks 0 b)).isSome\/m.dh b none=[50,50]then(m.aG,[50,50])
 else({m.aG.put b none with written:=val m.ks 0 b},m.dh b none)
def M.rewrite (m:M) (b:B):M×B:=
 if bP [52,57] [3] m.mode≠good then(m,bP [52,57] [3] m.mode)
 else if bt m.ks m.size b=false then(m.aG,[52,52])
 else if m.ord=true/\m.read=false then(m.aG,[52,51])
 else if m.ord=true/\val m.ks 0 b≠m.last then(m.aG,[50,49])
 else match m.find (val m.ks 0 b)with
 |none=>(m.aG,[50,51])
 |some o=>if m.dh b (some o)=[50,50]then(m.aG,[50,50])else(m.aG.put b (some o),m.dh b (some o))
def M.gone (m:M) (p:B):M:={m with rows:=m.rows.filter λr=>decide (val m.ks 0 r.b≠p)}
def M.delete (m:M) (b:B):M×B:=
 if bP [52,57] [3] m.mode≠good then(m,bP [52,57] [3] m.mode)
 else if m.ord=false/\b.length<(aH m.ks 0).at_+(aH m.ks 0).len then(m.aG,[52,52])
 else if m.ord=true/\m.read=false then(m.aG,[52,51])
 else match m.find (if m.ord then m.last else val m.ks 0 b)with
 |none=>(m.aG,[50,51])
 |some _=>(m.aG.gone (if m.ord then m.last else val m.ks 0 b),good)
def rel (r:Nat) (x y:B):Bool:=
 if r=0 then decide (x=y)else if r=1 then decide (y<x)else if r=2 then !decide (x<y)else if r=3 then decide (x<y)else if r=4 then !decide (y<x)else false
def M.place (m:M) (i r:Nat) (v:B):Option Row:=
 if r=3\/r=4 then((cn m.ks i m.rows).filter λx=>rel r ((val m.ks i x.b).take v.length) v).getLast?
 else(cn m.ks i m.rows).find? λx=>rel r ((val m.ks i x.b).take v.length) v
def M.start (m:M) (k:Int) (r:Nat) (v:B):M×B:=
 if bP [52,55] [1,3] m.mode≠good then(m,bP [52,55] [1,3] m.mode)
 else if k<0\/m.ks.length<=k\/v.length=0\/(aH m.ks k.toNat).len<v.length then(m.dW,[50,51])
 else match m.place k.toNat r v with
 |none=>(m.dW,[50,51])
 |some x=>({m with read:=false,lost:=false,key:=k.toNat,value:=val m.ks k.toNat x.b,at_:=x.t k.toNat,same:=true},good)
end X
end Go.Proofs.YtipljcmmokaokaaGreat
namespace Go.Proofs.YtipljcmmokaokaaGreat
open Go.RowKit
set_option maxRecDepth 100000
abbrev u8 (b:UInt8):Value:= .int .u8 (b.toNat:Int)
def dK (l:List UInt8):List Value:=l.map u8
theorem fu (l:List UInt8):(dK l).length=l.length:=by simp[dK]
theorem zV (a b:List UInt8):dK (a++b)=dK a++dK b:=by simp[dK]
theorem uV (l:List UInt8) (j:Nat) (h:j<l.length):(dK l)[j]? =some (u8 l[j]):=by simp[dK,h]
structure Step (M M':Nat->Prop) (w w':World):Prop where
 os:w'.os=w.os
 tape:w'.tape=w.tape
 output:w'.output=w.output
 size:w.heap.size<=w'.heap.size
 block:∀k,k<w.heap.size->¬M k->w'.heap[k]? =w.heap[k]?
 sub:∀k,k<w.heap.size->M' k->M k
theorem Step.trans {M M' e:Nat->Prop} {a b c:World} (h:Step M M' a b) (k:Step M' e b c):Step M e a c:=
 ⟨k.os.trans h.os,k.tape.trans h.tape,k.output.trans h.output,aw h.size k.size,
  λi d f=>(k.block i (av d h.size) (λg=>f (h.sub i d g))).trans (h.block i d f),
  λi d j=>h.sub i d (k.sub i (av d h.size) j)⟩
theorem Step.refl (M:Nat->Prop) (w:World):Step M M w w:=⟨rfl,rfl,rfl,aq _,λ_ _ _=>rfl,λ_ _ h=>h⟩
theorem Step.aC {M:Nat->Prop} {w w':World} (h:Below w.heap.size w w'):Step M M w w':=
 ⟨h.os,h.tape,h.output,h.size,λk a _=>h.block k a,λ_ _ h=>h⟩
theorem Step.bg {M:Nat->Prop} {w w':World} {row:Option Nat} (h:w.grownBy w' row) (c:∀k,row=some k->k<w.heap.size->M k):Step M M w w':=
 ⟨h.os,h.tape,h.output,h.size,λk a b=>h.block k a (λe=>b (c k e.symm a)),λ_ _ h=>h⟩
theorem Step.below {M M':Nat->Prop} {w w':World} {B:Nat} (h:Step M M' w w') (a:B<=w.heap.size) (b:∀k,M k->B<=k):Below B w w':=
 ⟨h.os,h.tape,h.output,h.size,λk c=>h.block k (av c a) (λd=>absurd (b k d) (by omega))⟩
theorem Step.cell {M M':Nat->Prop} {w w':World} (h:Step M M' w w') {a:Addr} (ha:a.block<w.heap.size) (b:¬M a.block):w'.cell? a=w.cell? a:=
 World.cell?_of_block (h.block _ ha b)
def By (w:World) (M:Nat->Prop) (A:Option Addr) (n:Nat) (l:List UInt8):Prop:=
 l.length=n/\(0<n->∃b o,A=some ⟨b,o,none⟩/\b<w.heap.size/\¬M b/\∀j (h:j<l.length),w.cell? ⟨b,o+j,none⟩=some (u8 l[j]))
abbrev bE:Nat->Prop:=λ_=>False
section
variable {w w' : World} {M M' : Nat -> Prop} {A : Option Addr} {n : Nat} {l : List UInt8}
theorem By.dV:By w M A 0 []:=⟨rfl,λh=>absurd h (by omega)⟩
theorem By.step (h:By w M A n l) (d:Step M M' w w'):By w' M' A n l:=
 ⟨h.1,λm=>by
  obtain⟨b,o,e,c,f,g⟩:=h.2 m;exact⟨b,o,e,av c d.size,λk=>f (d.sub b c k),λj i=>(d.cell (a:=⟨b,o+j,none⟩) c f).trans (g j i)⟩⟩
theorem By.below (h:By w M A n l) (a:Below w.heap.size w w'):By w' M A n l:=h.step (Step.aC a)
theorem By.noM (h:By w M A n l):By w bE A n l:=
 ⟨h.1,λd=>by
  obtain⟨b,o,e,a,_,c⟩:=h.2 d;exact⟨b,o,e,a,λh=>h,c⟩⟩
theorem By.drewN (h:By w M A n l) (k:Nat):By (w.drewN k) M A n l:=h
theorem By.drew (h:By w M A n l):By w.drew M A n l:=h
theorem By.alloc (h:By w M A n l) (o:Obj):By (w.alloc o) M A n l:=h.below ((ak _ _).alloc (aq _) _)
theorem By.cell (h:By w M A n l) {k:Nat} (a:k<n):∃b o,A=some ⟨b,o,none⟩/\b<w.heap.size/\¬M b/\w.cell? ⟨b,o+k,none⟩=some (u8 (l[k]'(by rw[h.1];exact a))):=by
 obtain⟨b,o,e,d,c,f⟩:=h.2 (by omega);exact⟨b,o,e,d,c,f k (by rw[h.1];exact a)⟩
theorem By.take (h:By w M A n l) {k:Nat} (g:k<=n):By w M A k (l.take k):=
 ⟨by rw[List.length_take,h.1];omega,λi=>by
  obtain⟨b,o,e,c,a,d⟩:=h.2 (by omega);exact⟨b,o,e,c,a,λj f=>by rw[d j (by rw[h.1];rw[List.length_take,h.1]at f;omega)];simp⟩⟩
theorem fB (b o k:Nat):(⟨b,o,none⟩:Addr).add k=⟨b,o+k,none⟩:=by
 unfold Addr.add;by_cases h:k=0<;>simp[h]
theorem By.at_ (h:By w M A n l) (i:0<n):∃a,A=some a/\a.block<w.heap.size/\¬M a.block/\∀j (h:j<l.length),w.cell? (a.add j)=some (u8 l[j]):=by
 obtain⟨b,o,e,d,c,f⟩:=h.2 i;exact⟨_,e,d,c,λj g=>by rw[fB];exact f j g⟩
theorem By.drop (h:By w M A n l) {k cap:Nat} (i:k<=n) (g:n<=cap):By w M (if cap=k then A else A.map (·.add k)) (n - k) (l.drop k):=
 ⟨by rw[List.length_drop,h.1],λm=>by
  obtain⟨b,o,e,c,a,d⟩:=h.2 (by omega);subst e;rw[if_neg (by omega)];refine⟨b,o+k,by simp[fB],c,a,λj f=> ?_⟩;rw[Nat.add_assoc,d (k+j) (by rw[List.length_drop]at f;omega)];simp⟩
end
theorem TY (l:List UInt8):∀u∈dK l,u.oneCell'=true:=by
 intro u a;simp only[dK,List.mem_map]at a;obtain⟨b,_,rfl⟩:=a;rfl
theorem Tryz.Jk:(Tryz.prog.info? 5).map (λi=>(i.zero,i.size,i.bytes))=some (some (.int .u8 0),1,1):=by kernel_rfl
section
variable {P : Program} (w : World)
theorem jw (base:Nat) (t h e:TypeId) (i:TypeInfo) (size:Nat) (b:P.underlying t=some (.slice e)) (a:P.info? e=some i)
  (v:Value) (n:Nat) (xs:List Value) (f:w.ownsRow base e size v n xs) (A:Option Addr) (c:Nat):(Builtin.append_ #[t,t] h #[v, .slice A 0 c]).run P w= .ok v w:=by
 rcases f.2 with⟨rfl,rfl⟩|⟨g,cap,cur,rfl,_,_,d,_⟩
 ·cases A<;>simp[Builtin.append_,run_underlying b,sizeOf,typeInfo,a,Builtin.lenOf,Builtin.firstCells,loadCells,loadCellsFrom,Result.andThen,storeCells]
 ·cases A<;>simp[Builtin.append_,run_underlying b,sizeOf,typeInfo,a,Builtin.lenOf,Builtin.firstCells,loadCells,loadCellsFrom,Result.andThen,d,storeCells]
end
theorem gC (w:World) (base:Nat) (v:Value) (n:Nat) (l:List UInt8) (d:w.ownsRow base 5 1 v n (dK l)) (M:Nat->Prop) (A:Option Addr) (m c:Nat) (x:List UInt8) (e:By w M A m x)
  (z:n+m<=100000000) (p:base<=w.heap.size) (f:TypeId):
  ∃v' w',(Builtin.append_ #[40,40] f #[v, .slice A m c]).run Tryz.prog w= .ok v' w'/\w'.ownsRow base 5 1 v' (n+m) (dK (l++x))/\w.grownBy w' v.ownBlock/\(v'.ownBlock=v.ownBlock\/v'.ownBlock=some w.heap.size)/\(v'= .slice none 0 0↔v= .slice none 0 0/\m=0):=by
 obtain⟨i0,g,s,t,y⟩:=info_parts Tryz.Jk;rcases Nat.eq_zero_or_pos m with h0|h0
 ·subst h0;obtain rfl:x=[]:=List.eq_nil_of_length_eq_zero e.1;exact⟨v,w,jw w base _ f _ i0 1 Tryz.underlying40 g v n _ d A c,by simpa using d,World.grownBy.refl w _, .inl rfl,by simp⟩
 ·obtain⟨h,rfl,_,_,q⟩:=e.at_ h0;obtain⟨v',w',r,h1,i,k,o⟩:=run_append_own_at (P:=Tryz.prog) w base 40 f 5 i0 (.int .u8 0) 1 1 Tryz.underlying40 g s t y rfl (by decide) v n (dK l) d h m c (dK x) (by rw[fu,e.1,Nat.mul_one])
   (λj u a=>by
    have b:j<x.length:=by
     by_cases b:j<x.length
     ·exact b
     ·rw[List.getElem?_eq_none (by rw[fu];omega)]at a;cases a
    rw[uV x j b]at a;injection a with a;rw[<-a];exact q j b) (TY x) (by unfold maxLen;omega) (by omega) p
  exact⟨v',w',r,by rw[zV];exact h1,i,o,k⟩
theorem vP (w:World) (base:Nat) (v:Value) (n:Nat) (l:List UInt8) (e:w.ownsRow base 5 1 v n (dK l)) (s:ByteArray)
  (j:n+s.size<=100000000) (c:base<=w.heap.size) (a:TypeId):
  ∃v' w',(Builtin.append_ #[40,9] a #[v, .string s]).run Tryz.prog w= .ok v' w'/\w'.ownsRow base 5 1 v' (n+s.size) (dK (l++s.data.toList))/\w.grownBy w' v.ownBlock:=by
 obtain⟨i0,d,g,h,i⟩:=info_parts Tryz.Jk;obtain⟨v',w',f,h1,b,_⟩:=Lib.run_append_own_string (P:=Tryz.prog) w base 40 9 a 5 i0 Tryz.underlying40 Tryz.underlying9 d g h i v n (dK l) e s (by unfold maxLen;omega) (by omega) c;exact⟨v',w',f,by rw[zV];exact h1,b⟩
section
variable {w : World} {D : Array Oper} {rest : List Oper} {o : Oper} {a : Act} {Q : Exit -> Act -> World -> Prop}
theorem bz (p:o.guard=none) (s x:Operand) (q:o.op= .call {callee:= .builtin .append,args:=#[s,x],argTypes:=#[40,40]})
  (base:Nat) (v:Value) (n:Nat) (l:List UInt8) (y:a.eval s=v) (r:w.ownsRow base 5 1 v n (dK l)) (M:Nat->Prop) (A:Option Addr) (m c:Nat) (b:List UInt8) (z:a.eval x= .slice A m c) (t:By w M A m b)
  (j:n+m<=100000000) (k:base<=w.heap.size)
  (h:∀v' w',w'.ownsRow base 5 1 v' (n+m) (dK (l++b))->w.grownBy w' v.ownBlock->(v'.ownBlock=v.ownBlock\/v'.ownBlock=some w.heap.size)->(v'= .slice none 0 0↔v= .slice none 0 0/\m=0)->wpList Tryz.prog D Q rest (a.put o.dst v') w'):wpList Tryz.prog D Q (o::rest) a w:=by
 refine wpList_plain p λK i=> ?_;obtain⟨v',w',u,d,e,f,g⟩:=gC w base v n l r M A m c b t j k o.type;unfold Oper.wp execOp;simp only[q,resolve,invoke,builtin,Sem.run_bind,Sem.run_pure,Result.andThen_ok,List.map_toArray,List.map_cons,List.map_nil,y,z,u];exact i _ _ (h v' w' d e f g)
end
theorem gl {w:World} {base n:Nat} {v:Value} {l:List UInt8} {M:Nat->Prop} (h:w.ownsRow base 5 1 v n (dK l)) (b:∀k,M k->k<base):∃A c,v= .slice A n c/\n<=c/\By w M A n l:=by
 have a:l.length=n:=by have:=h.1;simpa [fu] using this
 rcases h.2 with⟨rfl,rfl⟩|⟨g,cap,cur,rfl,p,d,h1,i,m,o⟩
 ·exact⟨none,0,rfl,aq _,a,λh=>absurd h (by omega)⟩
 ·refine⟨_,cap,rfl,h1,a,λ_=>⟨g,0,rfl,(ai d).1,λf=>by have:=b g f;omega,λj e=> ?_⟩⟩;rw[Nat.zero_add];have:=h.cellAt j (by omega);rw[this,uV l j e]
theorem By.weak {w:World} {M M':Nat->Prop} {A:Option Addr} {n:Nat} {l:List UInt8} (h:By w M A n l) (c:∀k,M' k->M k):By w M' A n l:=
 ⟨h.1,λi=>by
  obtain⟨b,o,e,d,g,f⟩:=h.2 i;exact⟨b,o,e,d,λa=>g (c _ a),f⟩⟩
def Sl (w:World) (M:Nat->Prop) (v:Value) (l:List UInt8):Prop:=
 (∃A,v= .slice A 0 0/\l=[])\/∃b o c,v= .slice (some ⟨b,o,none⟩) l.length c/\l.length<=c/\b<w.heap.size/\By w M (some ⟨b,o,none⟩) l.length l
def U8 (w:World) (b:Nat):Prop:=b<w.heap.size/\∃(cur:Array Value) (_:Unit),w.heap[b]? =some (.cells cur 5 (0,0))
theorem U8.same {w w':World} {b:Nat} (h:U8 w b) (d:w.heap.size<=w'.heap.size) (c:w'.heap[b]? =w.heap[b]?):U8 w' b:=by
 obtain⟨h1,cur,a,e⟩:=h;exact⟨av h1 d,cur,a,c.trans e⟩
def bT (w:World) (M:Nat->Prop) (v:Value) (l:List UInt8):Prop:=
 (v= .slice none 0 0/\l=[])\/∃b o,v= .slice (some ⟨b,o,none⟩) l.length l.length/\l.length<=maxLen/\U8 w b/\¬M b/\By w M (some ⟨b,o,none⟩) l.length l
section
variable {w w' : World} {M M' : Nat -> Prop} {v : Value} {l : List UInt8}
theorem bT.sl (h:bT w M v l):Sl w M v l:=by
 rcases h with⟨h,a⟩|⟨b,o,e,h1,c,_,d⟩
 ·exact .inl ⟨none,h,a⟩
 ·exact .inr ⟨b,o,_,e,aq _,c.1,d⟩
theorem bT.step (h:bT w M v l) (a:Step M M' w w'):bT w' M' v l:=by
 rcases h with h|⟨b,o,e,h1,c,d,f⟩
 ·exact .inl h
 ·exact .inr ⟨b,o,e,h1,c.same a.size (a.block b c.1 d),λh=>d (a.sub b c.1 h),f.step a⟩
theorem Sl.step (h:Sl w M v l) (a:Step M M' w w'):Sl w' M' v l:=by
 rcases h with h|⟨b,o,c,e,h0,d,f⟩
 ·exact .inl h
 ·exact .inr ⟨b,o,c,e,h0,av d a.size,f.step a⟩
theorem Sl.weak (h:Sl w M v l) (f:∀k,M' k->M k):Sl w M' v l:=by
 rcases h with h|⟨b,o,c,e,h0,a,d⟩
 ·exact .inl h
 ·exact .inr ⟨b,o,c,e,h0,a,d.weak f⟩
theorem bT.weak (h:bT w M v l) (a:∀k,M' k->M k):bT w M' v l:=by
 rcases h with h|⟨b,o,e,h1,c,f,d⟩
 ·exact .inl h
 ·exact .inr ⟨b,o,e,h1,c,λh=>f (a b h),d.weak a⟩
theorem Sl.dV:Sl w M (.slice none 0 0) []:= .inl ⟨none,rfl,rfl⟩
theorem bT.dV:bT w M (.slice none 0 0) []:= .inl ⟨rfl,rfl⟩
theorem Sl.by (h:Sl w M v l):∃A c,v= .slice A l.length c/\l.length<=c/\By w M A l.length l:=by
 rcases h with⟨A,rfl,rfl⟩|⟨b,o,c,rfl,h0,_,a⟩
 ·exact⟨A,0,rfl,aq _,By.dV⟩
 ·exact⟨_,c,rfl,h0,a⟩
end
theorem yM (A:Addr) (n c:Nat) (w:World) (a:n<=c):
  Calls Tryz.prog 83 #[.slice (some A) n c] w λe w'=>e= .returned (.slice (some A) n n)/\w=w':=by
 go_enter Tryz.func83,Tryz.ntmps83;go_wp2;go_ret;exact⟨rfl,rfl⟩
theorem yN (w:World):
  Calls Tryz.prog 83 #[.slice none 0 0] w λe w'=>e= .returned (.slice none 0 0)/\w=w':=by
 go_enter Tryz.func83,Tryz.ntmps83;go_wp2;go_ret;exact⟨rfl,rfl⟩
theorem FN (w:World):
  Calls Tryz.prog 127 #[.slice none 0 0] w λe w'=>e= .returned (.slice none 0 0)/\w=w':=by
 have a:=λw=>run_eql_slice_nil (P:=Tryz.prog) w 40 5 none 0 0 Tryz.underlying40;go_enter Tryz.func127,Tryz.ntmps127;go_wp2;go_ret;exact⟨rfl,rfl⟩
theorem KR (a:Addr) (c:Nat) (w:World) (M:Nat->Prop) (l:List UInt8) (h:By w M (some a) l.length l) (B:l.length<=90000000):
  Calls Tryz.prog 127 #[.slice (some a) l.length c] w λe w'=>∃g cap,e= .returned (.slice (some ⟨g,0,none⟩) l.length cap)/\l.length<=cap/\w.heap.size<=g/\U8 w' g/\By w' (· <w.heap.size) (some ⟨g,0,none⟩) l.length l/\Below w.heap.size w w':=by
 have H:=ae h;clear h;have x:=λw=>run_eql_slice_nil (P:=Tryz.prog) w 40 5 (some a) l.length c Tryz.underlying40;go_enter Tryz.func127,Tryz.ntmps127;have n:(w.alloc (.cells #[] 5)).ownsRow w.heap.size 5 1 (.slice (some ⟨w.heap.size,0,none⟩) 0 0) 0 (dK []):=World.ownsRow_made w #[] 0 (aq _) (Nat.zero_le _) rfl;go_wp2_with (refine bz rfl _ _ rfl w.heap.size (.slice (some ⟨w.heap.size,0,none⟩) 0 0) 0 [] rfl n M (some a) l.length c l rfl (H.o.alloc _) (by omega) (by simp) ?_);intro v' w' d j s m;have f:Below w.heap.size w w':=((ak _ _).alloc (aq _) _).grown j (by simp) (λk e=>by cases e;exact aq _);rcases d.2 with⟨rfl,_⟩|⟨g,cap,cur,rfl,t,b,h1,z,q,r⟩
 ·exact(m rfl).elim
 ·obtain⟨y,c',e,A,i⟩:=gl d (M:=(· <w.heap.size)) (λk v=>v);injection e with e1 e2 e3;subst e1 e3;have p:=ae i;have o:=ae f;have u:U8 w' g:=⟨(ai b).1,cur,(),b⟩;clear d j s m i f b q r x n;go_wp2_with fail;go_ret;exact⟨g,cap,rfl,h1,t,u,p.o,o.o⟩
theorem By.max {w:World} {M:Nat->Prop} {A:Option Addr} {n:Nat} {l:List UInt8} (h:By w M A n l) (a:n<=90000000):l.length<=90000000:=by rw[h.1];exact a
theorem fC (v:Value) (l:List UInt8) (w:World) (M:Nat->Prop) (h:Sl w M v l) (p:l.length<=90000000):
  Calls Tryz.prog 96 #[v] w λe w'=>∃v',e= .returned v'/\bT w' (· <w.heap.size) v' l/\Below w.heap.size w w':=by
 have key:∀(a:Addr) (c:Nat),l.length<=c->By w M (some a) l.length l->Calls Tryz.prog 96 #[.slice (some a) l.length c] w λe w'=>∃v',e= .returned v'/\bT w' (· <w.heap.size) v' l/\Below w.heap.size w w':=by
  intro a c h0 d;have H:=ae d;clear d h;go_enter Tryz.func96,Tryz.ntmps96;go_wp2_with fail;refine(KR a c _ M l H.o p).mono ?_;rintro e w1 ⟨g,cap,rfl,m,r,n,i,f⟩;have k:=ae i;have j:=ae f;clear i f;go_wp2_with fail;refine(yM _ _ _ _ m).mono ?_;rintro e s ⟨rfl,rfl⟩;go_wp2_with fail;go_ret;exact⟨_,rfl, .inr ⟨g,0,rfl,by unfold maxLen;omega,n,by show¬_<_;omega,k.o⟩,j.o⟩
 rcases h with⟨_|a,rfl,rfl⟩|⟨b,o,c,rfl,h0,q,d⟩
 ·clear key;go_enter Tryz.func96,Tryz.ntmps96;go_wp2_with fail;refine(FN _).mono ?_;rintro e w0 ⟨rfl,rfl⟩;go_wp2_with fail;refine(yN _).mono ?_;rintro e w0 ⟨rfl,rfl⟩;go_wp2_with fail;go_ret;exact⟨_,rfl,bT.dV,ak _ _⟩
 ·exact key a 0 (aq _) By.dV
 ·exact key _ c h0 d
theorem vQ (l:List UInt8) (k:Nat) (h:k<l.length):l.take (k+1)=l.take k++[l[k]]:=List.take_succ_eq_append_getElem h
theorem Ov (s:Nat) (x:UInt8) (a:s<4294967296):(bits BinOp.xor IntKind.u32 (s:Int) ((x.toNat:Int)%4294967296)*16777619%4294967296)=((J.lf s x:Nat):Int):=by
 have b:=x.toNat_lt;have e:((x.toNat:Int)%4294967296)=((x.toNat:Nat):Int):=by omega
 rw[e,u32_xor_nat _ _ a (by omega)];unfold J.lf;rw[Int.natCast_emod,Int.natCast_mul];rfl
theorem CO:∀(t:List UInt8) (x:UInt8),J.dH (t++[x])=J.dH t+256^t.length*x.toNat
 |[],x=>by simp[J.dH]
 |b::t,x=>by
  have a:=CO t x;simp only[List.cons_append,J.dH,a,List.length_cons,Nat.pow_succ];rw[Nat.mul_add,Nat.mul_assoc,Nat.mul_left_comm,Nat.add_assoc]
theorem Ow (t:List UInt8) (k:Nat) (x:UInt8) (d:t.length=k) (f:k<8):bits BinOp.or IntKind.u64 ((J.dH t:Nat):Int) (IntKind.u64.wrap (IntKind.u64.wrap (x.toNat:Int)*2^(8*k)))=((J.dH (t++[x]):Nat):Int):=by
 have i:=x.toNat_lt;have a:=J.mN t;rw[d]at a;have b:(256:Nat)^k=2^(8*k):=by rw[show(256:Nat)=2^8 by decide,<-Nat.pow_mul]
 have g:(2:Nat)^(8*k)<=2^56:=Nat.pow_le_pow_right (by decide) (by omega);have e:(2:Nat)^56=72057594037927936:=by decide
 have h:x.toNat*2^(8*k)<=255*2^(8*k):=Nat.mul_le_mul_right _ (by omega);have e1:IntKind.u64.wrap (x.toNat:Int)=(x.toNat:Int):=IntWalk.u64_in _ (by omega);have e2:((x.toNat:Int)*2^(8*k))=((x.toNat*2^(8*k):Nat):Int):=by rw[Int.natCast_mul,Int.natCast_pow];rfl
 have e3:IntKind.u64.wrap ((x.toNat*2^(8*k):Nat):Int)=((x.toNat*2^(8*k):Nat):Int):=IntWalk.u64_in _ (by omega);rw[e1,e2,e3,u64_or_nat _ _ (by rw[b]at a;omega) (by omega),CO,d,b];rw[b]at a;have c:=Nat.shiftLeft_add_eq_or_of_lt a x.toNat;rw[Nat.shiftLeft_eq]at c;rw[Nat.or_comm,<-c,Nat.add_comm,Nat.mul_comm]
theorem yO (A:Option Addr) (n c:Nat) (l:List UInt8) (w:World) (M:Nat->Prop) (h:By w M A n l) (r:n<=90000000):
  Calls Tryz.prog 117 #[.slice A n c] w λe w'=>e= .returned (.int .u32 (J.bP l:Nat))/\w=w':=by
 have H:=ae h;have q:l.length=n:=h.1;clear h;go_enter Tryz.func117,Tryz.ntmps117;go_wp2;go_loop [3,8] (fun s i=>∃k:Nat,k<=n/\i= .int .i64 k/\s= .int .u32 (J.bP (l.take k):Nat)) (fun _ i=>n - (intOf i).toNat)
 case atStart=>exact⟨0,Nat.zero_le _,rfl,rfl⟩
 case round=>
  obtain⟨k,p,rfl,rfl⟩:=hrel;by_cases g:k<n
  ·obtain⟨b,o,rfl,j,_,m⟩:=H.o.cell g;have f:k<l.length:=(by omega);have d:=ae (vQ l k f);have a:=ae (J.NV (l.take k) l[k]);have HX:=ae (Ov (J.bP (l.take k)) l[k] (J.zQ _));go_wp2;go_round
   case rel=>exact⟨k+1,by omega,by go_num,by rw[d.o,a.o,HX.o]⟩
   case measure=>simp[intOf];omega
  ·go_wp2;go_ret;exact⟨by rw[List.take_of_length_le (by omega)];rfl,rfl⟩
theorem lG (A:Option Addr) (n c:Nat) (l:List UInt8) (w:World) (M:Nat->Prop) (h:By w M A n l) (q:n<=8):
  Calls Tryz.prog 116 #[.slice A n c] w λe w'=>e= .returned (.int .u64 (J.dH l:Nat))/\w=w':=by
 have H:=ae h;have p:l.length=n:=h.1;clear h;go_enter Tryz.func116,Tryz.ntmps116;go_wp2;go_loop [3,8] (fun s i=>∃k:Nat,k<=n/\i= .int .i64 k/\s= .int .u64 (J.dH (l.take k):Nat)) (fun _ i=>n - (intOf i).toNat)
 case atStart=>exact⟨0,Nat.zero_le _,rfl,rfl⟩
 case round=>
  obtain⟨k,m,rfl,rfl⟩:=hrel;by_cases f:k<n
  ·obtain⟨b,o,rfl,g,_,j⟩:=H.o.cell f;have d:k<l.length:=(by omega);have a:=ae (vQ l k d);have HX:=ae (Ow (l.take k) k l[k] (by rw[List.length_take];omega) (by omega));go_wp2;go_round
   case rel=>exact⟨k+1,by omega,by go_num,by rw[a.o,<-HX.o]⟩
   case measure=>simp[intOf];omega
  ·go_wp2;go_ret;exact⟨by rw[List.take_of_length_le (by omega)];rfl,rfl⟩
def Loc (w:World) (v v':Value):Prop:=v'.ownBlock=v.ownBlock\/∃g,v'.ownBlock=some g/\w.heap.size<=g
theorem FO {a b c:World} {v v':Value} (h:a.grownBy b v.ownBlock) (k:b.grownBy c v'.ownBlock) (d:Loc a v v'):a.grownBy c v.ownBlock:=
 ⟨k.os.trans h.os,k.tape.trans h.tape,k.output.trans h.output,aw h.size k.size,λi f j=>(k.block i (av f h.size) (λe=>by
  rcases d with d|⟨g,l,m⟩
  ·exact j (e.trans d)
  ·rw[l]at e;injection e with e;omega)).trans (h.block i f j)⟩
theorem yh {a c:World} {o:Obj} {r:Option Nat} (k:(a.alloc o).grownBy c r) (e:r≠some a.heap.size\/True):a.grownBy c r:=by
 have _:=e;exact⟨k.os,k.tape,k.output,aw (by simp) k.size,λi b d=>(k.block i (by simp;omega) d).trans (Below.heap_alloc a o i b)⟩
theorem nS (v:Value) (n:Nat) (xs:List UInt8) (x:Nat) (many base:Nat) (w:World) (h:w.ownsRow base 5 1 v n (dK xs)) (C:base<=w.heap.size) (I:x<18446744073709551616) (F:many<=8) (G:n<=90000000):
  Calls Tryz.prog 143 #[v, .int .u64 x, .int .i64 many] w λe w'=>∃v',e= .returned v'/\w'.ownsRow base 5 1 v' (n+many) (dK (xs++J.leB x many))/\w.grownBy w' v.ownBlock/\Loc w v v':=by
 go_enter Tryz.func143,Tryz.ntmps143;go_wp2;go_loopw [0,9] (fun s i wr=>∃k:Nat,k<=many/\i= .int .i64 k/\wr.ownsRow base 5 1 s (n+k) (dK (xs++J.leB x k))/\w.grownBy wr v.ownBlock/\Loc w v s) (fun _ i _=>many - (intOf i).toNat)
 case atStart=>exact⟨0,Nat.zero_le _,rfl,by simpa [J.leB] using h,World.grownBy.refl w _, .inl rfl⟩
 case round=>
  obtain⟨k,D,rfl,a,p,r⟩:=hrel;have d:=ae a;have b:=ae p;have c:=ae r;clear a p r;by_cases E:k<many
  ·have l:∀W:World,By (W.alloc (.cells #[.int .u8 ((x:Int)/2^(8*k)%256)] 5)) bE (some ⟨W.heap.size,0,none⟩) 1 [UInt8.ofNat (x/256^k)]:=λW=>⟨rfl,λ_=>⟨W.heap.size,0,rfl,by simp,λh=>h,λj A=>by
    obtain rfl:j=0:=(by simpa using A);rw[Nat.zero_add];refine(World.cell?_alloc_new _ _ _ _).trans ?_;show some _=some (u8 _)
    congr 1
    show Value.int .u8 _=Value.int .u8 _
    congr 1
    show _=((UInt8.ofNat (x/256^k)).toNat:Int);rw[UInt8.toNat_ofNat',show(256:Nat)^k=2^(8*k) by rw[show(256:Nat)=2^8 by decide,<-Nat.pow_mul],Int.natCast_emod,Int.natCast_ediv,Int.natCast_pow];rfl⟩⟩
   have HY:=ae l;clear l;go_wp2_with (at_builtin;refine bz rfl _ _ rfl base _ (n+k) (xs++J.leB x k) rfl (d.o.alloc _) bE (some ⟨wr.heap.size,0,none⟩) 1 1 [UInt8.ofNat (x/256^k)] rfl (HY.o _) (by omega) (by have:=b.o.size;simp;omega) ?_);intro v' w' a m f B;have y:=ae a;have o:=FO b.o (yh m (.inr trivial)) c.o;have t:=ae o;have H:=b.o.size;have q:Loc w v v':=by
    rcases f with e|e
    ·rcases c.o with h|⟨g,h,z⟩
     ·exact .inl (e.trans h)
     ·exact .inr ⟨g,e.trans h,z⟩
    ·exact .inr ⟨_,e,by first|omega|(simp;omega)⟩
   have u:=ae q;clear a m f B o q;go_wp2_with fail;go_roundw
   case rel=>exact⟨k+1,by omega,by go_num,by rw[J.Cx,<-Nat.add_assoc];exact y.o,t.o,u.o⟩
   case measure=>simp[intOf];omega
  ·obtain rfl:k=many:=(by omega);go_wp2;go_ret;exact⟨_,rfl,d.o,b.o,c.o⟩
end Go.Proofs.YtipljcmmokaokaaGreat
namespace Go.Proofs.YtipljcmmokaokaaGreat
open Go.RowKit Go.Lib
set_option maxRecDepth 100000
theorem wpList_append_run {P:Program} {w:World} {D:Array Oper} {rest:List Oper} {o:Oper} {a:Act} {Q:Exit->Act->World->Prop} (c:o.guard=none) (s x:Operand) (t u:TypeId)
  (d:o.op= .call {callee:= .builtin .append,args:=#[s,x],argTypes:=#[t,u]}) (v1 v2:Value) (f:a.eval s=v1) (g:a.eval x=v2) (v':Value) (w':World)
  (e:(Builtin.append_ #[t,u] o.type #[v1,v2]).run P w= .ok v' w') (h:wpList P D Q rest (a.put o.dst v') w'):wpList P D Q (o::rest) a w:=by
 refine wpList_plain c λK b=> ?_;unfold Oper.wp execOp;simp only[d,resolve,invoke,builtin,Sem.run_bind,Sem.run_pure,Result.andThen_ok,List.map_toArray,List.map_cons,List.map_nil,f,g,e];exact b _ _ h
theorem KS (n:Nat) (w:World) (o:n<=90000000):
  Calls Tryz.prog 139 #[.slice none 0 0, .int .i64 n] w λe w'=>∃v',e= .returned v'/\w'.ownsRow w.heap.size 5 1 v' 0 (dK [])/\Below w.heap.size w w':=by
 obtain⟨i0,k,l,p,g⟩:=info_parts Tryz.Jk;rcases Nat.eq_zero_or_pos n with h0|h0
 ·subst h0;go_enter Tryz.func139,Tryz.ntmps139;go_wp2;go_ret;exact⟨_,rfl,World.ownsRow_nil _ _ _ _,ak _ _⟩
 ·have b:∀c,(Builtin.append_ #[40,3] c #[.slice none 0 0, .int .i64 (n:Int)]).run Tryz.prog w=
    .ok (.slice (some ⟨w.heap.size,0,none⟩) n (grownCap w n 0 5)) (w.drew.alloc (.cells (Builtin.zeroCells (Value.int .u8 0).cells n++Builtin.zeroCells (Value.int .u8 0).cells (grownCap w n 0 5 - n)) 5)):=λc=>by
   have h:=Lib.run_append_grow_zeros (P:=Tryz.prog) w 40 3 c 5 i0 (.int .u8 0) .i64 .i64 Tryz.underlying40 Tryz.underlying3 k l none 0 0 [] (run_firstCells_none w.drew i0.size 0 0 0) n (by omega) (by omega) (by omega) (by omega)
    (by rw[g];omega) (by rw[g];exact growslice_fits (by omega) (by omega))
   simpa using h
  have d:=grownCap_ge w n 0 5;have a:=grownCap_le_maxLen w n 0 5 (by unfold maxLen;omega);have f:∀C:Nat,n<=C->C<=maxLen->(w.drew.alloc (.cells (Builtin.zeroCells (Value.int .u8 0).cells n++Builtin.zeroCells (Value.int .u8 0).cells (C - n)) 5)).ownsRow w.heap.size 5 1 (.slice (some ⟨w.heap.size,0,none⟩) 0 C) 0 (dK []):=by
   intro C h1 j;refine World.ownsRow_made w.drew _ C (aq _) j ?_;rw[Array.size_append,size_zeroCells,size_zeroCells];show n*1+(C - n)*1=C*1;omega
  generalize grownCap w n 0 5=C at b d a;have HR:=ae (f C d a);have i:=ae b;clear b;have m:(C:Int)<=9223372036854775807:=(by unfold maxLen at a;omega);have h1:(0:Int)<(n:Int):=(by omega);clear f a;go_enter Tryz.func139,Tryz.ntmps139;go_wp2_with (at_builtin;refine wpList_append_run rfl _ _ 40 3 rfl (.slice none 0 0) (.int .i64 (n:Int)) rfl rfl _ _ (i.o _) ?_);go_wp2_with fail;go_ret;exact⟨_,rfl,HR.o,((ak _ _).drew).alloc (aq _) _⟩
def FP (l0 l1:List UInt8):Nat->List UInt8|0=>[]|1=>l0|_=>l0++l1
theorem jx (b:Nat) (o q:Option Addr) (g n1 F c1:Nat) (a c:List UInt8) (w:World) (D E:Nat->Prop) (H:b<w.heap.size) (h0:w.cell? ⟨b,0,none⟩=some (.slice o g F)) (h1:w.cell? ⟨b,1,none⟩=some (.slice q n1 c1))
  (z:By w D o g a) (A:By w E q n1 c) (P:g<=40000000) (Q:n1<=40000000):
  Calls Tryz.prog 115 #[.slice (some ⟨b,0,none⟩) 2 2] w λe w'=>∃v',e= .returned v'/\w'.ownsRow w.heap.size 5 1 v' (g+n1) (dK (a++c))/\Below w.heap.size w w':=by
 have B:=ae h0;have C:=ae h1;have L:=ae z;have M:=ae A;have e0:a.length=g:=z.1;have e1:c.length=n1:=A.1;clear h0 h1 z A;go_enter Tryz.func115,Tryz.ntmps115;go_wp2;go_loop [3,11] (fun s i=>∃k:Nat,k<=2/\i= .int .i64 k/\s= .int .i64 ((FP a c k).length:Nat)) (fun _ i=>2 - (intOf i).toNat)
 case atStart=>exact⟨0,Nat.zero_le _,rfl,rfl⟩
 case round=>
  obtain⟨k,N,rfl,rfl⟩:=hrel;rcases(show k=0\/k=1\/k=2 by omega)with rfl|rfl|rfl
  ·have v:=B.o;have l:(FP a c 0).length=0:=rfl;rw[l];clear l;go_wp2;go_round
   case rel=>exact⟨1,by omega,by go_num,by show _=Value.int .i64 ((a.length:Nat):Int);rw[e0]⟩
   case measure=>simp[intOf]
  ·have v:=C.o;have l:(FP a c 1).length=g:=e0;have O:=ae l;rw[l];clear l;go_wp2;go_round
   case rel=>exact⟨2,by omega,by go_num,by show _=Value.int .i64 (((a++c).length:Nat):Int);rw[List.length_append,e0,e1];go_num⟩
   case measure=>simp[intOf]
  ·have l:(FP a c 2).length=g+n1:=(by show(a++c).length=_;rw[List.length_append,e0,e1]);rw[l];clear l;go_wp2_with fail;have h:=KS (g+n1) w (by omega);rw[Int.natCast_add]at h;refine h.mono ?_;rintro e w1 ⟨v',rfl,f,n⟩;have I:=ae n;have K:=ae f;clear f n h;go_wp2;go_loopw [6,27] (fun s i wr=>∃k:Nat,k<=2/\i= .int .i64 k/\wr.ownsRow w.heap.size 5 1 s (FP a c k).length (dK (FP a c k))/\Below w.heap.size w wr) (fun _ i _=>2 - (intOf i).toNat)
   case atStart=>exact⟨0,Nat.zero_le _,rfl,K.o,I.o⟩
   case round=>
    obtain⟨k,N,rfl,f,n⟩:=hrel;have d:=ae n;have m:=ae f;clear f n;rcases(show k=0\/k=1\/k=2 by omega)with rfl|rfl|rfl
    ·have v:=(d.o.cell (p:=⟨b,0,none⟩) H).trans B.o;go_wp2_with (at_builtin;refine bz rfl _ _ rfl w.heap.size _ 0 [] rfl m.o D o g F a rfl (L.o.below d.o) (by omega) d.o.size ?_);intro v' w' f h u y;have t:=ae f;have r:=ae (d.o.grown h d.o.size (λj x=>(m.o.lt j x).1));clear f h u y;go_wp2_with fail;go_roundw
     case rel=>exact⟨1,by omega,by go_num,by show World.ownsRow _ _ _ _ _ a.length (dK a);rw[e0];exact t.o,r.o⟩
     case measure=>simp[intOf]
    ·have v:=(d.o.cell (p:=⟨b,1,none⟩) H).trans C.o;go_wp2_with (at_builtin;refine bz rfl _ _ rfl w.heap.size _ a.length a rfl m.o E q n1 c1 c rfl (M.o.below d.o) (by omega) d.o.size ?_);intro v' w' f h u y;have t:=ae f;have r:=ae (d.o.grown h d.o.size (λj x=>(m.o.lt j x).1));clear f h u y;go_wp2_with fail;go_roundw
     case rel=>exact⟨2,by omega,by go_num,by show World.ownsRow _ _ _ _ _ (a++c).length (dK (a++c));rw[List.length_append,e0,e1];exact t.o,r.o⟩
     case measure=>simp[intOf]
    ·go_wp2;go_ret;exact⟨_,rfl,by have:(FP a c 2).length=g+n1:=by {show(a++c).length=_;rw[List.length_append,e0,e1]};have G:=m.o;rw[this]at G;exact G,d.o⟩
theorem iG (a b:Option Addr) (i n1 m c1:Nat) (f g:List UInt8) (w:World) (j k:Nat->Prop) (o:By w j a i f) (p:By w k b n1 g):
  Calls Tryz.prog 43 #[.slice a i m, .slice b n1 c1] w λe w'=>e= .returned (.bool (f==g))/\w=w':=by
 have d:∀(A:Option Addr) (n c:Nat) (l:List UInt8) (M:Nat->Prop),By w M A n l->(convert 40 9 (.slice A n c)).run Tryz.prog w= .ok (.string ⟨l.toArray⟩) w:=by
  intro A n c l M h;rcases Nat.eq_zero_or_pos n with h0|h0
  ·subst h0;obtain rfl:l=[]:=List.eq_nil_of_length_eq_zero h.1;rw[run_convert_bytes_string w 40 9 5 A 0 c Tryz.underlying40 Tryz.underlying5 Tryz.underlying9];cases A<;>rfl
  ·obtain⟨q,rfl,_,_,r⟩:=h.at_ h0;have e:=h.1;subst e;exact run_convert_bytes_back w 40 9 5 q c l Tryz.underlying40 Tryz.underlying5 Tryz.underlying9 r
 have s:=d a i m f j o;have t:=d b n1 c1 g k p;clear d o p;go_enter Tryz.func43,Tryz.ntmps43;go_wp2;go_ret;exact⟨rfl,rfl⟩
end Go.Proofs.YtipljcmmokaokaaGreat
namespace Go.Proofs.YtipljcmmokaokaaGreat
open Go.RowKit
set_option maxRecDepth 100000
section
variable {P : Program} {w : World}
theorem jS (g:Nat) (t:TypeId) (b:Nat×Nat):∀(vs:List Value) (o:Nat) (w:World) (C:Array Value),w.heap[g]? =some (.cells C t b)->
  ∃a,(w.setCells g o vs).heap[g]? =some (.cells a t b)/\a.size=C.size
 |[],_,_,C,h=>⟨C,h,rfl⟩
 |v::r,o,w,C,h=>by
  have h1:(w.setCell ⟨g,o,none⟩ v).heap[g]? =some (.cells (C.setIfInBounds o v) t b):=by
   simp only[World.setCell,Array.getElem?_modify,h];simp
  obtain⟨a,c,d⟩:=jS g t b r (o+1) _ _ h1;exact⟨a,c,by simpa using d⟩
theorem gp (g:Nat):∀(vs:List Value) (o:Nat) (w:World),w.grownBy (w.setCells g o vs) (some g)/\(w.setCells g o vs).heap.size=w.heap.size
 |[],_,_=>⟨⟨rfl,rfl,rfl,aq _,λ_ _ _=>rfl⟩,rfl⟩
 |v::r,o,w=>by
  have⟨h1,c⟩:=gp g r (o+1) (w.setCell ⟨g,o,none⟩ v);have b:(w.setCell ⟨g,o,none⟩ v).heap.size=w.heap.size:=(by simp[World.setCell]);refine⟨⟨h1.os,h1.tape,h1.output,by have:=h1.size;rw[b]at this;exact this,λk d a=> ?_⟩,c.trans b⟩;exact(h1.block k (by omega) a).trans (Below.heap_setCell w _ v k (by intro e;exact a (by rw[e])))
theorem wpList_store_row {D:Array Oper} {rest:List Oper} {o:Oper} {a:Act} {Q:Exit->Act->World->Prop}
  (s:Region.wanted o (yielded D a.tmps)=true) (x y:Operand) (c:TypeId) (u:o.op=Op.store c x y) (g:Nat) (E:a.eval x= .pointer (some ⟨g,0,none⟩)) (vs:List Value) (F:a.eval y= .agg vs.toArray)
  (t:TypeId) (C:Array Value) (d:w.heap[g]? =some (.cells C t (0,0))) (h:C.size=vs.length) (n:(P.info? c).map (·.size)=some vs.length) (h1:(vs.all λv=>v.oneCell')=true)
  (q:∀w',w'.heap[g]? =some (.cells vs.toArray t (0,0))->w.grownBy w' (some g)->w'.heap.size=w.heap.size->wpList P D Q rest (a.put o.dst undef) w'):
  wpList P D Q (o::rest) a w:=by
 refine wpList_want s λG r=> ?_;have m:∀j,w.cell? ⟨g,j,none⟩=C[j]? :=λj=>ah w g j C t (0,0) d;have hst:=run_storeCells_cells (P:=P) g 0 vs 0 w (λj b=>by rw[m];simp[h];omega) (λj _=>by simp[World.frozen?,d]) (λv B=>List.all_eq_true.1 h1 v B);have z:(Instr.storeAt c (.pointer (some ⟨g,0,none⟩)) (.agg vs.toArray)).run P w= .ok () (w.setCells g 0 vs):=by
  cases hq:P.info? c with
  |none=>simp[hq]at n
  |some i=>
   have A:i.size=vs.length:=(by simpa [hq] using n);simp[Instr.storeAt,Instr.sureAddr,storeVar,Sem.run_bind,sizeOf,typeInfo,hq,A,Value.cells]
   simpa using hst
 obtain⟨f,k,H⟩:=jS g t (0,0) vs 0 w C d;have p:f=vs.toArray:=by
  apply Array.ext_getElem?;intro j;have e:=ah (w.setCells g 0 vs) g j f t (0,0) k;rw[<-e];by_cases b:j<vs.length
  ·have:=World.cell?_setCells_in g vs 0 w (λj b=>by rw[Nat.zero_add,m];simp[h];omega) j b;rw[Nat.zero_add]at this;rw[this];simp[b]
  ·rw[e,Array.getElem?_eq_none (by omega)];simp;omega
 subst p;have l:=gp g vs 0 w;unfold Oper.wp;simp only[execOp,u,E,F];have:=r _ _ (q _ k l.1 l.2);simp only[Sem.run_bind,z,Result.andThen];exact this
theorem cF {c:Func} {p u:Tmp} {a:TypeId} (h:c.results=#[.cell p a, .tmp u]) (b:Array Value) (w:World) (g:Nat) (t:TypeId) (cs:Array Value) (e:Nat×Nat) (d:TypeDesc)
  (j:b.getD p undef= .pointer (some ⟨g,0,none⟩)) (f:w.heap[g]? =some (.cells cs t e))
  (k:P.underlying a=some d) (hd:(match d with| .struct _| .array _ _=>true|_=>false)=true) (i:(P.info? a).map (·.size)=some cs.size):
  (results c b).run P w= .ok (.tuple #[.agg cs,b.getD u undef]) w:=by
 rw[results_cell_tmp h];simp[j,asAddr,Result.andThen,Sem.run_pure,run_loadVar_row w g t a cs e d f k hd i]
end
end Go.Proofs.YtipljcmmokaokaaGreat
