import Derived.Test.YtipljcmmokaokaaGreatQM13
set_option linter.unusedVariables false
set_option linter.unusedSimpArgs false
set_option maxHeartbeats 2000000
namespace Go.Proofs.YtipljcmmokaokaaGreat
open Go.RowKit Go.Lib Go.Maps Go.WideMaps Go.Sort
set_option maxRecDepth 100000
namespace X
def opened (s:J.St) (chs:List J.bZ) (now:List (B×B)):J.St:={s with opn:=true,spoilt:=false,changes:=chs,size:=13+(J.encs chs).length,was:=s.now,now:=now}
theorem qE (s:J.St):J.cM s=opened s [] s.now:=rfl
theorem mJ (s:J.St) (chs:List J.bZ) (now:List (B×B)) (c:J.bZ) (h:13+(J.encs chs).length+c.len≤4194304):J.add (opened s chs now) c=(opened s (chs++[c]) (if c.gone then J.del now c.key else J.ins now c.key c.val),0):=by
 unfold J.add;rw[if_neg (by show¬4194304 - (13+(J.encs chs).length)<c.len;omega)];unfold J.apply opened;have e:13+(J.encs (chs++[c])).length=13+(J.encs chs).length+c.len:=by
  rw[J.fX,J.dF];simp[J.encs];omega
 rw[e]
structure pn (u:Nat) (now:List (B×B)) (s:J.St):Prop where
 opn:s.opn=false
 ar:s.area=0
 now:s.now=now
 base:s.base=J.Ta
 inv:J.Inv True s
 wr:∀x∈s.writes,x.kind=0∧x.idx=0∧20≤x.bs.length
 h0:s.disk.h0=[]
 h1:s.disk.h1=[]
 sum:s.logged=(s.writes.map λw=>w.bs.length).sum
 log:s.logged≤12000*u
 a0:s.disk.a0.length≤12000*u
 cm:s.commits=s.writes.length
 cu:s.commits≤u
 many:s.now.length≤8*u+2
theorem pn.mono {u v:Nat} {now:List (B×B)} {s:J.St} (h:pn u now s) (hv:u≤v):pn v now s:=
 ⟨h.opn,h.ar,h.now,h.base,h.inv,h.wr,h.h0,h.h1,h.sum,aw h.log (Nat.mul_le_mul_left _ hv),aw h.a0 (Nat.mul_le_mul_left _ hv),h.cm,aw h.cu hv,by have:=h.many;omega⟩
theorem Pr:pn 0 [] J.new:=
 ⟨rfl,rfl,rfl,rfl,J.Fb True,(λx h=>by cases h),rfl,rfl,rfl,aq _,aq _,rfl,aq _,Nat.zero_le _⟩
theorem pn.two {u:Nat} {now:List (B×B)} {s:J.St} (h:pn u now s):J.Two s:=
 ⟨λx hx=>by have:=(h.wr x hx).2.2;omega,by rw[h.h0];decide,by rw[h.h1];decide⟩
theorem pn.len {u:Nat} {now:List (B×B)} {s:J.St} (h:pn u now s) {k l:B} (hl:J.look s.now k=some l):l.length≤8192:=by
 have hf:=h.inv.fit;revert hl;generalize s.now=m at hf;intro hl
 induction m with
 |nil=>cases hl
 |cons p t ih=>
  unfold J.look at hl;split at hl
  ·injection hl with hl;subst hl;exact(hf p af).2.2
  ·exact ih (λq hq=>hf q (ag _ hq)) hl
theorem Li {m:List (B×B)} (hf:J.oP m):(J.encs (J.values m)).length≤8499*m.length:=by
 induction m with
 |nil=>exact Nat.zero_le _
 |cons p t ih=>
  have h1:=ih (λq hq=>hf q (ag _ hq));obtain⟨_,h2,h3⟩:=hf p af;rw[J.fY,J.dF];simp only[J.bZ.len,List.length_cons,Bool.false_eq_true,if_false];omega
structure Tx (u:Nat) (s s1:J.St) (now:List (B×B)):Prop where
 opn:s1.opn=true
 sp:s1.spoilt=false
 cs:uv s1 s1.was
 cm:s1.commits+1<4294967296
 ar:s1.area≤1
 fit:(s1.disk.area s1.area).length+(J.record 0 (s1.commits+1) s1.changes).length≤4194304
 com:J.dh s1=(J.aL s1,(s1.commits:Int)+1,0)
 sto:pn (u+1) now (J.aL s1)
 wr:(J.aL s1).writes.length=s.writes.length+1
 hist:∀b states at_,J.mr True s b states at_→J.mr True (J.aL s1) b (states++[now]) (at_++[s.writes.length+1])
theorem Sh {u:Nat} {old now:List (B×B)} {s:J.St} (h:pn u old s) (hu:u≤340) (chs:List J.bZ) (hi:J.Inv True (opened s chs now)) (hh:∀b states at_,J.mr True s b states at_→J.mr True (opened s chs now) b states at_) (hl:7≤(J.encs chs).length∧(J.encs chs).length≤11900) (hm:now.length≤8*(u+1)+2):Tx u s (opened s chs now) now:=by
 have ha0:=h.a0;have mG:=h.log;have rF:(J.record 0 (s.commits+1) chs).length=13+(J.encs chs).length:=J.dP _ _ _;have TK:s.disk.area s.area=s.disk.a0:=by rw[h.ar];rfl
 have aZ:(s.disk.area s.area).length+(J.record 0 (s.commits+1) chs).length≤4194304:=by rw[TK,rF];omega
 have hcu:=h.cu;obtain⟨k1,k2,k3⟩:=J.oX (b:=0) (states:=[]) (at_:=[]) hi trivial rfl (show(s.disk.area s.area).length+(J.record 0 (s.commits+1) chs).length≤8388608 by omega) (show s.commits+1<4294967296 by omega) (show(J.encs chs).length<4294967296 by omega);refine⟨rfl,rfl,⟨?_, ?_, ?_⟩, ?_, ?_,aZ, ?_,⟨rfl,h.ar,rfl,h.base,k1, ?_, ?_, ?_, ?_, ?_, ?_, ?_, ?_,hm⟩, ?_, ?_⟩
 ·show(J.encs (J.values s.now)).length≤_;have:=Li h.inv.fit;have h2:=h.many;omega
 ·show s.commits<_;omega
 ·intro p hp;have:=(h.inv.fit p hp).2.1;unfold maxLen;omega
 ·show s.commits+1<_;omega
 ·show s.area≤1;rw[h.ar];omega
 ·rw[pA (s:=opened s chs now) rfl rfl rfl rfl aZ];unfold J.ic;have e1:J.fits (opened s chs now) (J.record 0 ((opened s chs now).commits+1) (opened s chs now).changes)=true:=decide_eq_true aZ;have e2:decide ((J.record 0 ((opened s chs now).commits+1) (opened s chs now).changes).length≤16777216 - (opened s chs now).logged)=true:=decide_eq_true (show(J.record 0 (s.commits+1) chs).length≤16777216 - s.logged by omega);rw[e1,e2];rfl
 ·intro x hx;have hx:x∈s.writes++[(⟨0,s.area,J.record 0 (s.commits+1) chs⟩:J.Wr)]:=hx;rcases List.mem_append.1 hx with hx|hx
  ·exact h.wr x hx
  ·simp only[List.mem_singleton]at hx;subst hx;exact⟨rfl,h.ar,by show 20≤(J.record 0 (s.commits+1) chs).length;omega⟩
 ·show(J.done s.disk ⟨0,s.area,_⟩ _).h0=[];unfold J.done J.eF.bN;rw[if_pos rfl,h.ar];exact h.h0
 ·show(J.done s.disk ⟨0,s.area,_⟩ _).h1=[];unfold J.done J.eF.bN;rw[if_pos rfl,h.ar];exact h.h1
 ·show s.logged+(J.record 0 (s.commits+1) chs).length=((s.writes++[(⟨0,s.area,J.record 0 (s.commits+1) chs⟩:J.Wr)]).map λw:J.Wr=>w.bs.length).sum;rw[h.sum];simp
 ·show s.logged+(J.record 0 (s.commits+1) chs).length≤_;omega
 ·show(J.done s.disk ⟨0,s.area,J.record 0 (s.commits+1) chs⟩ (J.record 0 (s.commits+1) chs).length).a0.length≤_;unfold J.done J.eF.bN;rw[if_pos rfl,h.ar];show(s.disk.a0++(J.record 0 (s.commits+1) chs).take _).length≤_;rw[List.length_append,List.length_take];omega
 ·show s.commits+1=(s.writes++[_]).length;rw[h.cm];simp
 ·show s.commits+1≤_;omega
 ·show(s.writes++[_]).length=_;simp
 ·intro b states at_ OD;obtain⟨_,_,k3⟩:=J.oX (b:=b) (states:=states) (at_:=at_) hi trivial rfl (show(s.disk.area s.area).length+(J.record 0 (s.commits+1) chs).length≤8388608 by omega) (show s.commits+1<4294967296 by omega) (show(J.encs chs).length<4294967296 by omega);exact k3 (hh _ _ _ OD)
section
variable {u : Nat} {s : J.St} {old : List (B × B)}
theorem mK (h:pn u old s):J.Inv True (opened s [] s.now):=(J.wy h.inv h.opn).1
theorem qF {chs:List J.bZ} {now:List (B×B)} (h:J.Inv True (opened s chs now)) (c:J.bZ) (hc:c.Fit) (hg:c.gone=true→J.look now c.key≠none):J.Inv True (opened s (chs++[c]) (if c.gone then J.del now c.key else J.ins now c.key c.val)):=by
 have:=J.Gq h rfl c hc hg;unfold J.apply at this;have e:13+(J.encs (chs++[c])).length=13+(J.encs chs).length+c.len:=by
  rw[J.fX,J.dF];simp[J.encs];omega
 have e2:opened s (chs++[c]) (if c.gone then J.del now c.key else J.ins now c.key c.val)={(opened s chs now)with changes:=chs++[c],size:=13+(J.encs chs).length+c.len,now:=(if c.gone then J.del now c.key else J.ins now c.key c.val)}:=by
  unfold opened;rw[e]
 rw[e2];exact this
theorem sD (h:pn u old s) (chs:List J.bZ) (now:List (B×B)) {b:Nat} {states:List (List (B×B))} {at_:List Nat} (hh:J.mr True s b states at_):J.mr True (opened s chs now) b states at_:=
 hh.same rfl rfl rfl (by unfold J.St.com opened;rw[h.opn];rfl)
def fz (ks:List B):List J.bZ:=ks.map λk=>⟨k,[],true⟩
theorem wQ (ks:List B) (k:B):fz (ks++[k])=fz ks++[⟨k,[],true⟩]:=by simp[fz]
theorem qG (ks:List B) (n:Nat) (h:∀k∈ks,k.length≤n):(J.encs (fz ks)).length≤(3+n)*ks.length:=by
 induction ks with
 |nil=>exact Nat.zero_le _
 |cons k t ih=>
  have h1:=ih (λx hx=>h x (ag _ hx));have h2:=h k af;show(J.encs (⟨k,[],true⟩::fz t)).length≤_;rw[J.dF,List.length_cons,Nat.mul_succ];simp only[J.bZ.len,if_true];omega
theorem AK {p:B×B} {t:List (B×B)} (h:J.ri (p::t)):J.del (p::t) p.1=t:=by
 unfold J.del;rw[List.filter_cons_of_neg (by simp),List.filter_eq_self.2];intro x hx;have:=(List.pairwise_cons.1 h).1 x hx;simp only[Bool.not_eq_true',beq_eq_false_iff_ne,ne_eq];intro e;rw[e]at this;exact List.lt_irrefl _ this
theorem GZ (p:B×B) (t:List (B×B)):J.look (p::t) p.1=some p.2:=by
 show(if p.1=p.1 then some p.2 else _)=_;rw[if_pos rfl]
theorem wR (h:pn u old s) (ks:List B) (m:List (B×B)) (p:B×B) (hi:J.Inv True (opened s (fz ks) (p::m))) (hl:(J.encs (fz ks)).length+400≤4000000):
  J.delete (opened s (fz ks) (p::m)) p.1=(opened s (fz (ks++[p.1])) m,0)∧J.Inv True (opened s (fz (ks++[p.1])) m):=by
 have hf:=hi.fit p af;have ha:J.ri (p::m):=hi.asc;have hlk:J.look (p::m) p.1≠none:=by rw[GZ];intro e;cases e
 constructor
 ·unfold J.delete;rw[if_neg (by show¬true=false;decide),if_neg (show¬J.look (opened s (fz ks) (p::m)).now p.1=none from hlk),mJ]
  ·rw[wQ];show(opened s _ (J.del (p::m) p.1),(0:Int))=_;rw[AK ha]
  ·have:=hf.2.1;simp only[J.bZ.len,if_true];omega
 ·have:=qF hi ⟨p.1,[],true⟩ ⟨hf.1,hf.2.1,Nat.zero_le _,λ_=>rfl⟩ (λ_=>hlk);rw[wQ];have e:(if(⟨p.1,[],true⟩:J.bZ).gone then J.del (p::m) (⟨p.1,[],true⟩:J.bZ).key else J.ins (p::m) (⟨p.1,[],true⟩:J.bZ).key (⟨p.1,[],true⟩:J.bZ).val)=m:=AK ha;rw[e]at this;exact this
theorem wS (h:pn u old s) (hu:u≤340) (ks:List B) (k v:B) (hi:J.Inv True (opened s (fz ks) [])) (ej:k≠[]) (hk:k.length≤300) (hv:v.length≤8192) (hl:(J.encs (fz ks)).length+7+k.length+v.length≤11900):
  J.add (opened s (fz ks) []) ⟨k,v,false⟩=(opened s (fz ks++[⟨k,v,false⟩]) [(k,v)],0)∧Tx u s (opened s (fz ks++[⟨k,v,false⟩]) [(k,v)]) [(k,v)]:=by
 constructor
 ·rw[mJ]
  ·rfl
  ·simp[J.bZ.len];omega
 ·refine Sh h hu _ (qF hi ⟨k,v,false⟩ ⟨ej,hk,hv,λe=>by cases e⟩ (λe=>by cases e)) (λb st a hh=>sD h _ _ hh) ?_ (by simp);rw[J.fX,J.dF];simp[J.encs,J.bZ.len];simp[J.encs]at hl;omega
end
end X
end Go.Proofs.YtipljcmmokaokaaGreat
namespace Go.Proofs.YtipljcmmokaokaaGreat
open Go.RowKit Go.Lib Go.Maps Go.WideMaps Go.Sort
namespace X
def sW (ks:List Ky) (c:Nat) (b:B) (old:Option Row) (i:Nat):Nat:=match old with
 |some o=>if val ks i o.b=val ks i b then o.t i else c+1
 |none=>c+1
def mL (ks:List Ky) (c:Nat) (b:B) (old:Option Row):List Nat:=(List.range ks.length).map λi=>if i=0 then 0 else sW ks c b old i
theorem Lj (m:M) (b:B) (old:Option Row):m.times b old=mL m.ks m.time b old:=by
 unfold M.times mL sW;cases old<;>rfl
theorem oG (ks:List Ky) (c:Nat) (b:B) (old:Option Row) {i:Nat} (hi:i<ks.length):Row.t ⟨b,mL ks c b old⟩ i=if i=0 then 0 else sW ks c b old i:=by
 unfold Row.t mL;rw[List.getD_eq_getElem?_getD,List.getElem?_map,List.getElem?_range hi];rfl
def fK (ks:List Ky) (c:Nat) (rows:List Row) (b:B) (old:Option Row):List Row:=(rows.filter λr=>decide (val ks 0 r.b≠val ks 0 b))++[⟨b,mL ks c b old⟩]
theorem uF (m:M) (b:B) (old:Option Row):m.put b old={m with rows:=fK m.ks m.time m.rows b old,time:=m.time+1}:=by
 unfold M.put fK;rw[Lj]
def iB (ks:List Ky) (rows:List Row) (p:B):List Row:=rows.filter λr=>decide (val ks 0 r.b≠p)
theorem ie {ks:List Ky} {rows:List Row} {p:B} {r:Row}:r∈iB ks rows p↔r∈rows∧val ks 0 r.b≠p:=by
 unfold iB;rw[List.mem_filter];simp
theorem iC {ks:List Ky} {c:Nat} {rows:List Row} {b:B} {old:Option Row} {r:Row}:r∈fK ks c rows b old↔(r∈rows∧val ks 0 r.b≠val ks 0 b)∨r=⟨b,mL ks c b old⟩:=by
 unfold fK;rw[List.mem_append,List.mem_filter,List.mem_singleton];simp
section
variable {ks : List Ky} {size time : Nat} {rows : List Row} {nm a : B} {c : Nat} {now : List (B × B)} {b : B} {old : Option Row}
theorem TL:∀p v,Pp ks (fK ks c rows b old) p v↔(p=val ks 0 b∧v=b)∨(p≠val ks 0 b∧Pp ks rows p v):=λp v=>by
 constructor
 ·rintro⟨r,hr,h1,h2⟩;rcases iC.1 hr with⟨h3,h4⟩|rfl
  ·exact .inr ⟨by rw[←h1];exact h4,r,h3,h1,h2⟩
  ·exact .inl ⟨h1.symm,h2.symm⟩
 ·rintro(⟨h1,h2⟩|⟨h0,r,h1,h2,h3⟩)
  ·exact⟨_,iC.2 (.inr rfl),h1.symm,h2.symm⟩
  ·exact⟨r,iC.2 (.inl ⟨h1,by rw[h2];exact h0⟩),h2,h3⟩
theorem Lk {i:Nat} (h1:1≤i) (hi:i<ks.length) (p:B) (t:Nat) (q:B):Ee ks (fK ks c rows b old) i p t q↔(∃r∈rows,val ks 0 r.b≠val ks 0 b∧val ks i r.b=p∧r.t i=t∧val ks 0 r.b=q)∨(val ks i b=p∧sW ks c b old i=t∧val ks 0 b=q):=by
 have ht:=oG ks c b old hi;rw[if_neg (by omega)]at ht;constructor
 ·rintro⟨r,hr,e1,e2,e3,_⟩;rcases iC.1 hr with⟨h3,h4⟩|rfl
  ·exact .inl ⟨r,h3,h4,e1,e2,e3⟩
  ·exact .inr ⟨e1,by rw[←ht];exact e2,e3⟩
 ·rintro(⟨r,h3,h4,e1,e2,e3⟩|⟨e1,e2,e3⟩)
  ·exact⟨r,iC.2 (.inl ⟨h3,h4⟩),e1,e2,e3,hi⟩
  ·exact⟨_,iC.2 (.inr rfl),e1,by rw[ht];exact e2,e3,hi⟩
theorem xV {p:B} (hf:rows.find? (λr=>decide (val ks 0 r.b=p))=none) {r:Row} (hr:r∈rows):val ks 0 r.b≠p:=λe=>by
 have:=List.find?_eq_none.1 hf r hr;rw[e]at this;simp at this
theorem bD {p:B} {o:Row} (hf:rows.find? (λr=>decide (val ks 0 r.b=p))=some o):o∈rows∧val ks 0 o.b=p:=
 ⟨(cL hf).1,of_decide_eq_true (cL hf).2⟩
theorem Ps (hr:aQ ks size time rows) (hf:rows.find? (λr=>decide (val ks 0 r.b=val ks 0 b))=old) {i:Nat} (h1:1≤i) (hi:i<ks.length) (qH:keeps ks i b old=true) (p:B) (t:Nat) (q:B):
  Ee ks (fK ks c rows b old) i p t q↔Ee ks rows i p t q:=by
 rw[Lk h1 hi];cases old with
 |none=>unfold keeps at qH;cases qH
 |some o=>
  obtain⟨ho,hp⟩:=bD hf;have hv:val ks i o.b=val ks i b:=of_decide_eq_true qH;have TM:sW ks c b (some o) i=o.t i:=(by unfold sW;dsimp only;rw[if_pos hv]);rw[TM];constructor
  ·rintro(⟨r,h3,h4,e1,e2,e3⟩|⟨e1,e2,e3⟩)
   ·exact⟨r,h3,e1,e2,e3,hi⟩
   ·exact⟨o,ho,hv.trans e1,e2,hp.trans e3,hi⟩
  ·rintro⟨r,h3,e1,e2,e3,_⟩;by_cases e:val ks 0 r.b=val ks 0 b
   ·have:r=o:=qC hr.prim h3 ho (e.trans hp.symm);subst this;exact .inr ⟨hv.symm.trans e1,e2,e.symm.trans e3⟩
   ·exact .inl ⟨r,h3,e,e1,e2,e3⟩
theorem Ll {l:List Row} {i:Nat} (h:l.Pairwise λx y=>x.t i≠y.t i) {r s:Row} (hr:r∈l) (hs:s∈l) (e:r.t i=s.t i):r=s:=by
 induction l with
 |nil=>cases hr
 |cons x t ih=>
  obtain⟨h1,h2⟩:=List.pairwise_cons.1 h;rcases au hr with rfl|lL<;>rcases au hs with rfl|hs'
  ·rfl
  ·exact absurd e (h1 s hs')
  ·exact absurd e.symm (h1 r lL)
  ·exact ih h2 lL hs'
theorem Lm (hr:aQ ks size c rows) (hf:rows.find? (λr=>decide (val ks 0 r.b=val ks 0 b))=old) {i:Nat} (h1:1≤i) (hi:i<ks.length) (qH:keeps ks i b old=false) (p:B) (t:Nat) (q:B):
  Ee ks (fK ks c rows b old) i p t q↔(p=val ks i b∧t=c+1∧q=val ks 0 b)∨(¬(p=val ks i b∧t=c+1)∧Ee ks rows i p t q∧∀o,old=some o→¬(p=val ks i o.b∧t=o.t i)):=by
 rw[Lk h1 hi];have TM:sW ks c b old i=c+1:=by
  unfold sW;cases old with
  |none=>rfl
  |some o=>
   have:val ks i o.b≠val ks i b:=of_decide_eq_false qH;dsimp only;rw[if_neg this]
 rw[TM];constructor
 ·rintro(⟨r,h3,h4,e1,e2,e3⟩|⟨e1,e2,e3⟩)
  ·have:=hr.tp r h3 i h1 hi;refine .inr ⟨λhh=>by omega,⟨r,h3,e1,e2,e3,hi⟩,λo ho hh=> ?_⟩;subst ho;obtain⟨ho,hp⟩:=bD hf;have:r=o:=Ll (hr.tm i h1 hi) h3 ho (e2.trans hh.2);subst this;exact h4 hp
  ·exact .inl ⟨e1.symm,e2.symm,e3.symm⟩
 ·rintro(⟨e1,e2,e3⟩|⟨_,⟨r,h3,e1,e2,e3,_⟩,h5⟩)
  ·exact .inr ⟨e1.symm,e2.symm,e3.symm⟩
  ·refine .inl ⟨r,h3,λe=> ?_,e1,e2,e3⟩;cases old with
   |none=>exact xV hf h3 e
   |some o=>
    obtain⟨ho,hp⟩:=bD hf;have:r=o:=qC hr.prim h3 ho (e.trans hp.symm);subst this;exact h5 r rfl ⟨e1.symm,e2.symm⟩
def Ln (nm a:B) (ks:List Ky) (c:Nat) (rows:List Row) (b:B) (old:Option Row) (j:Nat) (now:List (B×B)):Prop:=
 eP nm a ks.length (c+1) (lens ks) (Pp ks (fK ks c rows b old)) (λi p t q=>if i≤j then Ee ks (fK ks c rows b old) i p t q else Ee ks rows i p t q) now
theorem Dp (hr:aQ ks size time rows) {i:Nat} {p:B} {t:Nat} {q:B} (h:Ee ks rows i p t q):p.length=lens ks i:=by
 obtain⟨r,h1,rfl,_,_,hi⟩:=h;exact aV (hr.fit r h1) hi
theorem pB (hr:aQ ks size time rows) (hb:bj ks size b=true) {i:Nat} {p:B} {t:Nat} {q:B} (h:Ee ks (fK ks c rows b old) i p t q):p.length=lens ks i:=by
 obtain⟨r,h1,rfl,_,_,hi⟩:=h;rcases iC.1 h1 with⟨h3,_⟩|rfl
 ·exact aV (hr.fit r h3) hi
 ·exact aV hb hi
theorem Ha (h:iw nm a ks rows c now) (hk:eo ks size) (hr:aQ ks size c rows) (hb:bj ks size b=true):
  Ln nm a ks c rows b old 0 (J.ins (J.ins now (cK nm) (R.bI (c+1))) (bS nm 0 (val ks 0 b) 0) b):=by
 have h1:=eP.time h (c':=c+1) (by omega);have h2:=h1.record (by have:=hk.one;omega) (p0:=val ks 0 b) (v0:=b) (aV hb (by have:=hk.one;omega));refine h2.same TL (λi p t q k1 k2=> ?_) (λi p t q hh=> ?_)
 ·rw[if_neg (by omega)]
 ·split at hh
  ·exact pB hr hb hh
  ·exact Dp hr hh
theorem xW (hr:aQ ks size time rows) (hb:bj ks size b=true) {j:Nat}:∀i p t q,(if i≤j then Ee ks (fK ks c rows b old) i p t q else Ee ks rows i p t q)→p.length=lens ks i:=λi p t q hh=>by
 split at hh
 ·exact pB hr hb hh
 ·exact Dp hr hh
theorem Lp (hr:aQ ks size c rows) (hb:bj ks size b=true) (hf:rows.find? (λr=>decide (val ks 0 r.b=val ks 0 b))=old) {j:Nat} (hj:j+1<ks.length) (h:Ln nm a ks c rows b old j now) (qH:keeps ks (j+1) b old=true):Ln nm a ks c rows b old (j+1) now:=by
 refine eP.same h (λ_ _=>Iff.rfl) (λi p t q k1 k2=> ?_) (xW hr hb);by_cases e:i=j+1
 ·subst e;rw[if_pos (Nat.le_refl _),if_neg (by omega)];exact Ps hr hf k1 k2 qH p t q
 ·by_cases e2:i≤j
  ·rw[if_pos e2,if_pos (by omega)]
  ·rw[if_neg e2,if_neg (by omega)]
theorem Lq (hk:eo ks size) (hr:aQ ks size c rows) (hc:c+1<4294967296) (hb:bj ks size b=true) (hf:rows.find? (λr=>decide (val ks 0 r.b=val ks 0 b))=none) {j:Nat} (hj:j+1<ks.length) (h:Ln nm a ks c rows b none j now):
  Ln nm a ks c rows b none (j+1) (J.ins now (bS nm (j+1) (val ks (j+1) b) (c+1)) (val ks 0 b)):=by
 have h2:=eP.entry h (by have:=hk.one;omega) (i0:=j+1) ⟨by omega,hj⟩ (p0:=val ks (j+1) b) (q0:=val ks 0 b) (t0:=c+1) hc (aV hb hj);refine h2.same (λ_ _=>Iff.rfl) (λi p t q k1 k2=> ?_) (xW hr hb);by_cases e:i=j+1
 ·subst e;rw[if_pos (Nat.le_refl _),if_neg (by omega),Lm hr hf k1 k2 rfl];constructor
  ·rintro(⟨e1,e2,e3⟩|⟨e1,e2,_⟩)
   ·exact .inl ⟨rfl,e1,e2,e3⟩
   ·exact .inr ⟨λhh=>e1 ⟨hh.2.1,hh.2.2⟩,e2⟩
  ·rintro(⟨_,e1,e2,e3⟩|⟨e1,e2⟩)
   ·exact .inl ⟨e1,e2,e3⟩
   ·exact .inr ⟨λhh=>e1 ⟨rfl,hh.1,hh.2⟩,e2,λo ho=>by cases ho⟩
 ·by_cases e2:i≤j
  ·rw[if_pos e2,if_pos (by omega)];exact⟨λhh=> .inr ⟨λx=>e x.1,hh⟩,λhh=>hh.elim (λx=>absurd x.1 e) (λx=>x.2)⟩
  ·rw[if_neg e2,if_neg (by omega)];exact⟨λhh=> .inr ⟨λx=>e x.1,hh⟩,λhh=>hh.elim (λx=>absurd x.1 e) (λx=>x.2)⟩
theorem Lr (hk:eo ks size) (hr:aQ ks size c rows) (hc:c+1<4294967296) (hb:bj ks size b=true) {o:Row} (hf:rows.find? (λr=>decide (val ks 0 r.b=val ks 0 b))=some o) {j:Nat} (hj:j+1<ks.length) (h:Ln nm a ks c rows b (some o) j now) (qH:keeps ks (j+1) b (some o)=false):
  Ln nm a ks c rows b (some o) (j+1) (J.ins (J.del now (aN nm ks (j+1) o)) (bS nm (j+1) (val ks (j+1) b) (c+1)) (val ks 0 b)):=by
 obtain⟨ho,hp⟩:=bD hf;have h1:=eP.Fg h (by have:=hk.one;omega) (i0:=j+1) ⟨by omega,hj⟩ (val ks (j+1) o.b) (t0:=o.t (j+1)) (hr.t32 (by omega) ho hj);have h2:=h1.entry (by have:=hk.one;omega) (i0:=j+1) ⟨by omega,hj⟩ (p0:=val ks (j+1) b) (q0:=val ks 0 b) (t0:=c+1) hc (aV hb hj);refine h2.same (λ_ _=>Iff.rfl) (λi p t q k1 k2=> ?_) (xW hr hb);by_cases e:i=j+1
 ·subst e;rw[if_pos (Nat.le_refl _),if_neg (by omega),Lm hr hf k1 k2 qH];constructor
  ·rintro(⟨e1,e2,e3⟩|⟨e1,e2,e3⟩)
   ·exact .inl ⟨rfl,e1,e2,e3⟩
   ·exact .inr ⟨λhh=>e1 ⟨hh.2.1,hh.2.2⟩,λhh=>e3 o rfl ⟨hh.2.1,hh.2.2⟩,e2⟩
  ·rintro(⟨_,e1,e2,e3⟩|⟨e1,e3,e2⟩)
   ·exact .inl ⟨e1,e2,e3⟩
   ·exact .inr ⟨λhh=>e1 ⟨rfl,hh.1,hh.2⟩,e2,λo' VT hh=>by injection VT with VT;subst VT;exact e3 ⟨rfl,hh.1,hh.2⟩⟩
 ·have hx:∀x:Prop,x↔(i=j+1∧p=val ks (j+1) b∧t=c+1∧q=val ks 0 b)∨¬(i=j+1∧p=val ks (j+1) b∧t=c+1)∧¬(i=j+1∧p=val ks (j+1) o.b∧t=o.t (j+1))∧x:=λx=>
   ⟨λhh=> .inr ⟨λx=>e x.1,λx=>e x.1,hh⟩,λhh=>hh.elim (λx=>absurd x.1 e) (λx=>x.2.2)⟩
  by_cases e2:i≤j
  ·rw[if_pos e2,if_pos (by omega)];exact hx _
  ·rw[if_neg e2,if_neg (by omega)];exact hx _
theorem Pt {j:Nat} (hj:ks.length≤j+1) (hr:aQ ks size c rows) (hb:bj ks size b=true) (h:Ln nm a ks c rows b old j now):iw nm a ks (fK ks c rows b old) (c+1) now:=by
 refine eP.same h (λ_ _=>Iff.rfl) (λi p t q k1 k2=> ?_) (λi p t q hh=>pB hr hb hh);rw[if_pos (by omega)]
theorem xX {j:Nat} (h:Ln nm a ks c rows b old j now) (hr:aQ ks size c rows) (hc:c<4294967296) {i:Nat} (lf:j<i) (hi:i<ks.length) {r:Row} (hm:r∈rows):J.look now (aN nm ks i r)=some (val ks 0 r.b):=by
 have:=(h.alt i (val ks i r.b) (r.t i) (val ks 0 r.b) (by omega) hi (hr.t32 hc hm hi)).2;rw[if_neg (by omega)]at this;exact this ⟨r,hm,rfl,rfl,rfl,hi⟩
theorem Ls {j:Nat} (h:Ln nm a ks c rows b old j now) (hk:ks.length≤256) (hr:aQ ks size c rows) (hc:c<4294967296) {i:Nat} (lf:j<i) (hi:i<ks.length) (v:B) (hv:v.length=lens ks i):
  keysOf now ⟨(pre nm i++v).toArray⟩=((bQ ks i rows).filter λr=>decide (val ks i r.b=v)).map (aN nm ks i):=by
 unfold keysOf;rw[qB];refine mA _ _ (List.Pairwise.filter _ (List.pairwise_map.2 h.asc)) ?_ (λk=> ?_)
 ·rw[List.pairwise_map];refine List.Pairwise.imp_of_mem (λ{x y} hx hy Gs=> ?_) (List.Pairwise.filter _ (mD ks i rows (hr.zI hi)));exact(xG hr hc hi ((bt ks i x rows).1 (List.mem_filter.1 hx).1) ((bt ks i y rows).1 (List.mem_filter.1 hy).1)).2 Gs
 ·rw[List.mem_filter];constructor
  ·rintro⟨fP,hk2⟩;refine List.mem_map.2 ?_;obtain⟨⟨k',x⟩,hm,rfl⟩:=List.mem_map.1 fP;have hk2:Lib.hasPrefix k' (pre nm i++v)=true:=hk2;have hlk:=J.ew now k' x h.asc hm;rcases h.oth k' (by rw[hlk];intro e;cases e)with rfl|rfl|⟨p,rfl⟩|⟨j',p,t,j1,j2,Js,rfl⟩
   ·rw[pz]at hk2;cases hk2
   ·rw[tW]at hk2;cases hk2
   ·rw[eJ (by omega) (by decide) (by omega)]at hk2;cases hk2
   ·by_cases rv:i=j'
    ·subst rv;have h9:=(h.alt i p t x j1 j2 Js).1 hlk;rw[if_neg (by omega)]at h9;obtain⟨r,fp,e1,e2,e3,_⟩:=h9;have hl:p.length=lens ks i:=(by rw[←e1,aV (hr.fit r fp) hi]);rw[dz (by omega),hv,←hl,List.take_length]at hk2;refine⟨r,List.mem_filter.2 ⟨(bt ks i r rows).2 fp,by rw[e1];exact hk2⟩, ?_⟩;show bS nm i (val ks i r.b) (r.t i)=_;rw[e1,e2]
    ·rw[eJ (by omega) (by omega) rv]at hk2;cases hk2
  ·intro Wv;obtain⟨r,Tg,rfl⟩:=List.mem_map.1 Wv;obtain⟨fp,hd⟩:=List.mem_filter.1 Tg;have fp:=(bt ks i r rows).1 fp;have hl:(val ks i r.b).length=lens ks i:=aV (hr.fit r fp) hi;refine⟨List.mem_map.2 ⟨_,J.dZ now _ _ (xX h hr hc lf hi fp),rfl⟩, ?_⟩;show Lib.hasPrefix (bS nm i _ _) _=true;rw[dz (by omega),hv,←hl,List.take_length];exact hd
end
end X
namespace X
section
variable {ks : List Ky} {size time : Nat} {rows : List Row} {nm a : B} {c : Nat} {now : List (B × B)} {b : B} {old : Option Row}
theorem Lt (ks:List Ky) (size time:Nat):aQ ks size time []:=
 ⟨λ_ h=>(by cases h),λ_ h=>(by cases h),λ_ h=>(by cases h),λ_ h=>(by cases h),List.Pairwise.nil,λ_ _ _=>List.Pairwise.nil,λ_ _ _ _=>List.Pairwise.nil⟩
theorem AL (h:aQ ks size time rows) {l:List Row} (hl:l.Sublist rows):aQ ks size time l:=
 ⟨λr hr=>h.fit r (hl.subset hr),λr hr=>h.tl r (hl.subset hr),λr hr=>h.t0 r (hl.subset hr),λr hr=>h.tp r (hl.subset hr),h.prim.sublist hl,λi h1 h2=>(h.tm i h1 h2).sublist hl,λi h1 h2 h3=>(h.nodup i h1 h2 h3).sublist hl⟩
theorem Hb (h:aQ ks size time rows) {t:Nat} (ht:time≤t):aQ ks size t rows:=
 ⟨h.fit,h.tl,h.t0,λr hr i h1 h2=>⟨(h.tp r hr i h1 h2).1,aw (h.tp r hr i h1 h2).2 ht⟩,h.prim,h.tm,h.nodup⟩
theorem wT (h:aQ ks size time rows) (p:B):aQ ks size time (iB ks rows p):=AL h List.filter_sublist
def WS (ks:List Ky) (rows:List Row) (b:B) (old:Option Row):Prop:=∀i,1≤i→i<ks.length→(aF ks i).dup=false→keeps ks i b old=false→∀r∈rows,val ks i r.b≠val ks i b
theorem uG (h:aQ ks size c rows) (hb:bj ks size b=true) (hf:rows.find? (λr=>decide (val ks 0 r.b=val ks 0 b))=old) (nQ:WS ks rows b old) (h1:1≤ks.length):aQ ks size (c+1) (fK ks c rows b old):=by
 have hg:aQ ks size (c+1) (rows.filter λr=>decide (val ks 0 r.b≠val ks 0 b)):=Hb (AL h List.filter_sublist) (Nat.le_succ c);have hne:∀r∈rows.filter (λr=>decide (val ks 0 r.b≠val ks 0 b)),r∈rows∧val ks 0 r.b≠val ks 0 b:=λr hr=>by
  have:=List.mem_filter.1 hr
  simpa using this
 have TM:∀i,1≤i→i<ks.length→1≤sW ks c b old i∧sW ks c b old i≤c+1:=λi k1 k2=>by
  unfold sW;cases old with
  |none=>exact⟨by show 1≤c+1;omega,aq _⟩
  |some o=>
   obtain⟨ho,_⟩:=bD hf;have:=h.tp o ho i k1 k2;dsimp only;split<;>omega
 unfold fK;refine⟨λr hr=> ?_,λr hr=> ?_,λr hr=> ?_,λr hr i k1 k2=> ?_, ?_,λi k1 k2=> ?_,λi k1 k2 k3=> ?_⟩
 ·rcases List.mem_append.1 hr with hr|hr
  ·exact hg.fit r hr
  ·rw[List.mem_singleton.1 hr];exact hb
 ·rcases List.mem_append.1 hr with hr|hr
  ·exact hg.tl r hr
  ·rw[List.mem_singleton.1 hr];simp[mL]
 ·rcases List.mem_append.1 hr with hr|hr
  ·exact hg.t0 r hr
  ·rw[List.mem_singleton.1 hr,oG ks c b old (by omega),if_pos rfl]
 ·rcases List.mem_append.1 hr with hr|hr
  ·exact hg.tp r hr i k1 k2
  ·rw[List.mem_singleton.1 hr,oG ks c b old k2,if_neg (by omega)];exact TM i k1 k2
 ·refine List.pairwise_append.2 ⟨hg.prim,List.pairwise_singleton _ _,λx hx y hy=> ?_⟩;rw[List.mem_singleton.1 hy];exact(hne x hx).2
 ·refine List.pairwise_append.2 ⟨hg.tm i k1 k2,List.pairwise_singleton _ _,λx hx y hy=> ?_⟩;rw[List.mem_singleton.1 hy,oG ks c b old k2,if_neg (by omega)];obtain⟨hx1,hx2⟩:=hne x hx;have htp:=h.tp x hx1 i k1 k2;unfold sW;cases old with
  |none=>dsimp only;omega
  |some o=>
   obtain⟨ho,hp⟩:=bD hf;dsimp only;split
   ·intro e;have:=Ll (h.tm i k1 k2) hx1 ho e;subst this;exact hx2 hp
   ·omega
 ·refine List.pairwise_append.2 ⟨hg.nodup i k1 k2 k3,List.pairwise_singleton _ _,λx hx y hy=> ?_⟩;rw[List.mem_singleton.1 hy];obtain⟨hx1,hx2⟩:=hne x hx;cases hk:keeps ks i b old with
  |false=>exact nQ i k1 k2 k3 hk x hx1
  |true=>
   cases old with
   |none=>unfold keeps at hk;cases hk
   |some o=>
    obtain⟨ho,hp⟩:=bD hf;have hv:val ks i o.b=val ks i b:=of_decide_eq_true hk;intro e;have:x≠o:=λhh=>by subst hh;exact hx2 hp
    have hd:=h.nodup i k1 k2 k3;have:x=o:=by
     clear hg hne TM nQ;have e:val ks i x.b=val ks i o.b:=e.trans hv.symm;revert hx1 ho;generalize rows=l at hd;intro hx1 ho
     induction l with
     |nil=>cases hx1
     |cons z t ih=>
      obtain⟨d1,d2⟩:=List.pairwise_cons.1 hd;rcases au hx1 with rfl|WT<;>rcases au ho with rfl|VT
      ·rfl
      ·exact absurd e (d1 o VT)
      ·exact absurd e.symm (d1 x WT)
      ·exact ih d2 WT VT
    contradiction
theorem pC {m:M} (h:m.cW b old≠[50,50]):WS m.ks m.rows b old:=λi k1 k2 k3 hk r hr e=>by
 unfold M.cW at h;have:(List.range' 1 (m.ks.length - 1)).any (λi=>m.cI i b old&& !(aF m.ks i).dup)=true:=by
  rw[List.any_eq_true];refine⟨i,by rw[List.mem_range'_1];omega, ?_⟩;unfold M.cI;rw[hk,k3];have:(m.rows.any λr=>decide (val m.ks i r.b=val m.ks i b))=true:=List.any_eq_true.2 ⟨r,hr,decide_eq_true e⟩;rw[this];rfl
 rw[if_pos this]at h;exact h rfl
theorem AO (ks:List Ky) (c:Nat) (rows:List Row) (b:B) (old:Option Row):(fK ks c rows b old).length≤rows.length+1:=by
 unfold fK;rw[List.length_append];have:=List.length_filter_le (λr:Row=>decide (val ks 0 r.b≠val ks 0 b)) rows;simp only[List.length_singleton];omega
theorem wU (ks:List Ky) (rows:List Row) (p:B):(iB ks rows p).length≤rows.length:=List.length_filter_le _ _
end
section
variable {u : Nat} {m : M}
theorem eh (h:eQ u m) {wr:B} {l:List Nat} (hs:¬bM wr l m.mode≠good):m.there=true:=by
 cases ht:m.there with
 |true=>rfl
 |false=>
  exfalso;apply hs;have h0:=(h.none ht).2.1;unfold bM;rw[if_pos h0];decide
theorem eQ.dG (h:eQ u m):eQ (u+1) m.dG:=
 ⟨h.ks,h.rows,h.none,Nat.le_succ_of_le h.many,Nat.le_succ_of_le h.time,h.key,(λe=>by cases e),Nat.le_succ_of_le h.at_,h.mode⟩
theorem eQ.take (h:eQ u m) {r:Row} (hr:r∈m.rows):eQ (u+1) (m.take r):=by
 refine⟨h.ks,h.rows,h.none,Nat.le_succ_of_le h.many,Nat.le_succ_of_le h.time,h.key,λ_=> .inr ⟨aV (h.rows.fit r hr) h.key,λe=> ?_⟩, ?_,h.mode⟩
 ·show r.t m.key=0;rw[show m.key=0 from e];exact h.rows.t0 r hr
 ·show r.t m.key≤u+1;by_cases e:m.key=0
  ·rw[e,h.rows.t0 r hr];exact Nat.zero_le _
  ·have:=h.rows.tp r hr m.key (by omega) h.key;have:=h.time;omega
theorem eQ.keyed (h:eQ u m) (hl:m.lost=true) {i:Nat} (hi:i<m.ks.length):eQ u (m.keyed i):=
 ⟨h.ks,h.rows,h.none,h.many,h.time,hi,(λe=>by rw[show(m.keyed i).lost=m.lost from rfl,hl]at e;cases e),h.at_,h.mode⟩
theorem eQ.aG (h:eQ u m):eQ u m.aG:=⟨h.ks,h.rows,h.none,h.many,h.time,h.key,h.pos,h.at_,h.mode⟩
theorem M.at_mem {r:Row} (h:m.at=some r):r∈m.rows:=(bt _ _ _ _).1 (cL h).1
theorem M.uH {i:Nat} {v:B} {r:Row} (h:m.mE i v=some r):r∈m.rows:=(bt _ _ _ _).1 (cL h).1
theorem Lu (h:eQ u m):eQ (u+1) m.close.1:=by
 unfold M.close;split
 ·exact h.mono (Nat.le_succ u)
 ·exact⟨h.ks,h.rows,λe=>⟨(h.none e).1,rfl,(h.none e).2.2⟩,Nat.le_succ_of_le h.many,Nat.le_succ_of_le h.time,h.key,h.pos,Nat.le_succ_of_le h.at_,Nat.zero_le _⟩
theorem Fz (h:eQ u m):eQ (u+1) m.next.1:=by
 unfold M.next;split
 ·exact h.mono (Nat.le_succ u)
 ·split
  ·rename_i hl
   exact⟨h.ks,h.rows,h.none,Nat.le_succ_of_le h.many,Nat.le_succ_of_le h.time,h.key,h.pos,Nat.le_succ_of_le h.at_,h.mode⟩
  ·split
   ·rename_i r hr
    exact h.take (M.at_mem hr)
   ·exact h.dG
theorem eQ.put (h:eQ u m) {b:B} {old:Option Row} (hb:bj m.ks m.size b=true) (hf:m.find (val m.ks 0 b)=old) (hc:m.cW b old≠[50,50]) (ht:m.there=true):eQ (u+1) (m.put b old):=by
 rw[uF];refine⟨h.ks,uG h.rows hb hf (pC hc) h.ks.one.1,(λe=>by rw[show m.there=false from e]at ht;cases ht), ?_, ?_,h.key,h.pos,Nat.le_succ_of_le h.at_,h.mode⟩
 ·have:=AO m.ks m.time m.rows b old;have:=h.many;show(fK m.ks m.time m.rows b old).length≤u+1;omega
 ·have:=h.time;show m.time+1≤u+1;omega
theorem dI (h:eQ u m):eQ (u+1) m.aG:=h.aG.mono (Nat.le_succ u)
theorem Lv (h:eQ u m) (b:B):eQ (u+1) (m.write b).1:=by
 unfold M.write;split
 ·exact h.mono (Nat.le_succ u)
 ·rename_i hs
  split
  ·exact dI h
  ·rename_i hb
   split
   ·exact dI h
   ·split
    ·exact dI h
    ·rename_i hc
     have hc1:m.find (val m.ks 0 b)=none:=by
      cases hh:m.find (val m.ks 0 b)with
      |none=>rfl
      |some r=>exact absurd (.inl (by rw[hh];rfl)) hc
     have ht:=eh h hs;have hp:=eQ.put (m:=m.aG) h.aG (b:=b) (old:=none) (show bj m.ks m.size b=true by simpa using hb) hc1 (λe=>hc (.inr e)) ht;exact⟨hp.ks,hp.rows,hp.none,hp.many,hp.time,hp.key,hp.pos,hp.at_,hp.mode⟩
theorem Dq (h:eQ u m) (b:B):eQ (u+1) (m.rewrite b).1:=by
 unfold M.rewrite;split
 ·exact h.mono (Nat.le_succ u)
 ·rename_i hs
  split
  ·exact dI h
  ·rename_i hb
   split
   ·exact dI h
   ·split
    ·exact dI h
    ·split
     ·exact dI h
     ·rename_i o ho
      split
      ·exact dI h
      ·rename_i hc
       have ht:=eh h hs;exact eQ.put (m:=m.aG) h.aG (b:=b) (old:=some o) (show bj m.ks m.size b=true by simpa using hb) ho hc ht
theorem eQ.gone (h:eQ u m) (ht:m.there=true) (p:B):eQ (u+1) (m.gone p):=by
 refine⟨h.ks,wT h.rows p,(λe=>by rw[show m.there=false from e]at ht;cases ht), ?_,Nat.le_succ_of_le h.time,h.key,h.pos,Nat.le_succ_of_le h.at_,h.mode⟩;have:=wU m.ks m.rows p;have:=h.many;show(iB m.ks m.rows p).length≤u+1;omega
theorem Hc (h:eQ u m) (b:B):eQ (u+1) (m.delete b).1:=by
 unfold M.delete;split
 ·exact h.mono (Nat.le_succ u)
 ·rename_i hs
  split
  ·exact dI h
  ·split
   ·exact dI h
   ·split
    ·exact dI h
    ·have ht:=eh h hs;exact eQ.gone (m:=m.aG) h.aG ht _
theorem Pu (h:eQ u m) (md:Nat) (ord:Bool):eQ (u+1) (m.open md ord).1:=by
 unfold M.open;split
 ·exact h.mono (Nat.le_succ u)
 ·rename_i hm
  split
  ·exact h.mono (Nat.le_succ u)
  ·split
   ·exact h.mono (Nat.le_succ u)
   ·unfold M.opened;by_cases e:md=2
    ·subst e;refine⟨h.ks, ?_,(λx=>by cases x), ?_, ?_,h.ks.one.1,λ_=> .inl ⟨rfl,rfl,rfl⟩,Nat.zero_le _,by show 2≤4;decide⟩
     ·exact Lt _ _ _
     ·exact Nat.zero_le _
     ·exact Nat.zero_le _
    ·refine⟨h.ks, ?_,(λx=>by cases x), ?_, ?_,h.ks.one.1,λ_=> .inl ⟨rfl,rfl,rfl⟩,Nat.zero_le _,by show md≤4;omega⟩
     ·show aQ m.ks m.size (if md=2 then 0 else m.time) (if md=2 then []else m.rows);rw[if_neg e,if_neg e];exact h.rows
     ·show(if md=2 then []else m.rows).length≤_;rw[if_neg e];exact Nat.le_succ_of_le h.many
     ·show(if md=2 then 0 else m.time)≤_;rw[if_neg e];exact Nat.le_succ_of_le h.time
theorem M.Hd {i r:Nat} {v:B} {x:Row} (h:m.place i r v=some x):x∈m.rows:=by
 unfold M.place at h;split at h
 ·have:=List.mem_of_getLast? h;exact(bt _ _ _ _).1 (List.mem_filter.1 this).1
 ·exact(bt _ _ _ _).1 (cL h).1
theorem Lx (h:eQ u m) (k:Int) (r:Nat) (v:B):eQ (u+1) (m.start k r v).1:=by
 unfold M.start;split
 ·exact h.mono (Nat.le_succ u)
 ·split
  ·exact h.dG
  ·rename_i hk
   split
   ·exact h.dG
   ·rename_i x hx
    have zq:=M.Hd hx;have hk:k.toNat<m.ks.length:=(by omega);have ht:=eQ.take (h.dG.keyed rfl hk) zq;refine⟨h.ks,h.rows,h.none,Nat.le_succ_of_le h.many,Nat.le_succ_of_le h.time,hk,λ_=> .inr ⟨aV (h.rows.fit x zq) hk,λe=> ?_⟩, ?_,h.mode⟩
    ·show x.t k.toNat=0;rw[show k.toNat=0 from e];exact h.rows.t0 x zq
    ·show x.t k.toNat≤u+1;by_cases e:k.toNat=0
     ·rw[e,h.rows.t0 x zq];exact Nat.zero_le _
     ·have:=h.rows.tp x zq k.toNat (by omega) hk;have:=h.time;omega
end
end X
end Go.Proofs.YtipljcmmokaokaaGreat
namespace Go.Proofs.YtipljcmmokaokaaGreat
open Go.RowKit Go.Lib Go.Maps Go.WideMaps Go.Sort
set_option maxRecDepth 100000
structure Fv where
 mode:Nat
 ord:Bool
 key:Nat
 at_:J.B
 same:Bool
 lost:Bool
 last:J.B
 read:Bool
 written:J.B
abbrev ax (p:Nat) (nm:J.B) (size g n c:Nat) (f:Fv):Obj:=
 .cells #[.pointer (some ⟨p,0,none⟩), .string ⟨nm.toArray⟩, .int .i64 (size:Nat), .slice (some ⟨g,0,none⟩) n c, .int .u8 (f.mode:Nat), .bool f.ord, .int .i64 (f.key:Nat), .string ⟨f.at_.toArray⟩, .bool f.same, .bool f.lost, .string ⟨f.last.toArray⟩, .bool f.read, .string ⟨f.written.toArray⟩] 70 (0,0)
def bJ (ok:Obj) (ks:List X.Ky):Prop:=(∃C fr,ok= .cells C 66 fr)∧∀(W:World) (g:Nat),W.heap[g]? =some ok→dB W g ks
section
variable {w0 : World} {p pf g c size : Nat} {nm : J.B} {ks : List X.Ky} {f : Fv} {w w' : World} {s s1 s2 : J.St} {fs : List (Nat × Obj)} {ok : Obj}
theorem fL (h:w.heap[pf]? =some (ax p nm size g ks.length c f)):
  Calls Tryz.prog 39 #[.pointer (some ⟨pf,0,none⟩)] w λe w'=>e= .returned (.bool true)∧w=w':=by
 have hc:=aj w pf h;clear h;go_enter Tryz.func39,Tryz.ntmps39;go_wp2;go_ret;exact⟨rfl,rfl⟩
theorem He (h:w.heap[pf]? =some (ax p nm size g ks.length c f)):vQ w pf:=by
 refine⟨λo u v hh=> ?_,λ⟨_,cur,fr,e⟩=> ?_⟩
 ·rw[cell_of_row w pf o _ _ _ h,cell_of_row w pf (o+1) _ _ _ h]at hh;obtain⟨h1,h2⟩:=hh;rcases o with _|_|_|_|_|_|_|_|_|_|_|_|_|o<;>simp at h1 h2
 ·rw[h]at e;injection e with e;injection e with e1 e2;exact absurd e2 (by decide)
theorem cz {f':Fv} (h:At w0 p ((pf,ax p nm size g ks.length c f)::fs) s w) (hf:∀x∈fs,x.1≠pf) (ht:J.Two s) (hg:w.grownBy w' (some pf)) (hr:w'.heap[pf]? =some (ax p nm size g ks.length c f')):At w0 p ((pf,ax p nm size g ks.length c f')::fs) s w':=
 h.turn hf ht (He (h.get af)) hg hr
theorem lV (h:w.heap[pf]? =some (ax p nm size g ks.length c f)):
  Calls Tryz.prog 63 #[.pointer (some ⟨pf,0,none⟩)] w λe w'=>(∃v,e= .returned v)∧w.grownBy w' (some pf)∧w'.heap[pf]? =some (ax p nm size g ks.length c {f with at_:=[],same:=false,lost:=true,read:=false}):=by
 have hc:=aj w pf h;have hz:=aC h;have HG:=ae (aA (aA (aA (aA (World.grownBy.refl w (some pf)) 7 (.string ⟨#[]⟩)) 8 (.bool false)) 9 (.bool true)) 11 (.bool false));have HR:=ae (aB (aB (aB (aB h 7 (.string ⟨#[]⟩)) 8 (.bool false)) 9 (.bool true)) 11 (.bool false));clear h;go_enter Tryz.func63,Tryz.ntmps63;go_wp2;go_end0;exact⟨⟨_,rfl⟩,HG.out,HR.out⟩
theorem pD (h:w.heap[pf]? =some (ax p nm size g ks.length c f)) (hm:f.mode=0):
  Calls Tryz.prog 17 #[.pointer (some ⟨pf,0,none⟩)] w λe w'=>e= .returned (.string ⟨#[52,50]⟩)∧w=w':=by
 have HR:=ae (fL h);have hc:=aj w pf h;rw[hm]at hc;clear h;go_enter Tryz.func17,Tryz.ntmps17;go_wp2_with fail;refine HR.out.mono ?_;rintro e w1 ⟨rfl,rfl⟩;clear HR;go_wp2;go_ret;exact⟨rfl,rfl⟩
theorem Dr (h:w.heap[pf]? =some (ax p nm size g ks.length c f)) (hm:0<f.mode):
  Calls Tryz.prog 17 #[.pointer (some ⟨pf,0,none⟩)] w λe w'=>e= .returned (.string ⟨#[48,48]⟩)∧w.grownBy w' (some pf)∧w'.heap[pf]? =some (ax p nm size g ks.length c {f with mode:=0}):=by
 have HR:=ae (fL h);have hc:=aj w pf h;have hz:=aC h;have HG:=ae (aA (World.grownBy.refl w (some pf)) 4 (.int .u8 0));have HB:=ae (aB h 4 (.int .u8 0));have hm1:¬(f.mode:Int)=0:=by omega
 clear h;go_enter Tryz.func17,Tryz.ntmps17;go_wp2_with fail;refine HR.out.mono ?_;rintro e w1 ⟨rfl,rfl⟩;clear HR;go_wp2;go_ret;exact⟨rfl,HG.out,HB.out⟩
theorem LB {wr:J.B} {l:List Nat}:X.bM wr l 0=[52,50]:=rfl
theorem TN {wr:J.B} {l:List Nat} {m:Nat} (h0:m≠0) (h:m∈l):X.bM wr l m=[48,48]:=by unfold X.bM;rw[if_neg h0,if_pos h]
theorem Pv {wr:J.B} {l:List Nat} {m:Nat} (h0:m≠0) (h:m∉l):X.bM wr l m=wr:=by unfold X.bM;rw[if_neg h0,if_neg h]
theorem Ds (h:w.heap[pf]? =some (ax p nm size g ks.length c f)) (di:J.B) (gm:Nat) (l:List Nat) (cm:Nat) (hl:l.length≤10) (hg:∀j (h:j<l.length),w.cell? ⟨gm,j,none⟩=some (.int .u8 (l[j]:Nat))):
  Calls Tryz.prog 53 #[.pointer (some ⟨pf,0,none⟩), .string ⟨di.toArray⟩, .slice (some ⟨gm,0,none⟩) l.length cm] w λe w'=>e= .returned (.string ⟨(X.bM di l f.mode).toArray⟩)∧w=w':=by
 have HR:=ae (fL h);have HM:=ae (GY gm cm l f.mode w hg hl);have hc:=aj w pf h;by_cases h0:f.mode=0
 ·rw[h0,LB];rw[h0]at hc;clear h hg HM;go_enter Tryz.func53,Tryz.ntmps53;go_wp2_with fail;refine HR.out.mono ?_;rintro e w1 ⟨rfl,rfl⟩;clear HR;go_wp2;go_ret;exact⟨rfl,rfl⟩
 ·have h1:¬(f.mode:Int)=0:=(by omega);by_cases hm:f.mode∈l
  ·rw[TN h0 hm];rw[decide_eq_true hm]at HM;clear h hg;go_enter Tryz.func53,Tryz.ntmps53;go_wp2_with fail;refine HR.out.mono ?_;rintro e w1 ⟨rfl,rfl⟩;clear HR;go_wp2_with fail;refine HM.out.mono ?_;rintro e w1 ⟨rfl,rfl⟩;clear HM;go_wp2;go_ret;exact⟨rfl,rfl⟩
  ·rw[Pv h0 hm];rw[decide_eq_false hm]at HM;clear h hg;go_enter Tryz.func53,Tryz.ntmps53;go_wp2_with fail;refine HR.out.mono ?_;rintro e w1 ⟨rfl,rfl⟩;clear HR;go_wp2_with fail;refine HM.out.mono ?_;rintro e w1 ⟨rfl,rfl⟩;clear HM;go_wp2;go_ret;exact⟨rfl,rfl⟩
theorem bG (h:w.heap[pf]? =some (ax p nm size g ks.length c f)) (di:J.B) (l:List Nat) (n:Nat) (C:Array Value) (hC:C=(l.map λ(m:Nat)=>(.int .u8 (m:Nat):Value)).toArray) (hn:l.length=n) (hl:l.length≤10) (B:Nat) (hB:w.heap.size=B):
  Calls Tryz.prog 53 #[.pointer (some ⟨pf,0,none⟩), .string ⟨di.toArray⟩, .slice (some ⟨B,0,none⟩) n n] (w.alloc (.cells C 32)) λe w'=>e= .returned (.string ⟨(X.bM di l f.mode).toArray⟩)∧w.alloc (.cells C 32)=w':=by
 subst hC hn hB;have hlt:=(ai h).1;refine Ds ((((ak _ w).alloc (aq _) _).block pf hlt).trans h) di _ l l.length hl (λj hj=> ?_);rw[cell_of_row _ w.heap.size j _ _ _ (heap_alloc_new w _)];simp[hj]
theorem wV (h:At w0 p fs s w) (hf:(pf,ax p nm size g ks.length c f)∈fs) (ho:s.opn=false):
  Calls Tryz.prog 40 #[.pointer (some ⟨pf,0,none⟩)] w λe w'=>e= .returned (.bool true)∧At w0 p fs (J.cA (J.cM s)) w':=by
 have HB:=ae (Az h ho);have hc:=aj w pf (h.get hf);have HF:=ae hf;clear h hf;go_enter Tryz.func40,Tryz.ntmps40;go_wp2_with fail;refine HB.out.mono ?_;rintro e w1 ⟨rfl,h1⟩;have HA:=ae (Di h1 rfl);have hc1:=aj w1 pf (h1.get HF.out);clear h1 hc HB;go_wp2_with fail;refine HA.out.mono ?_;rintro e w2 ⟨rfl,h2⟩;have H2:=ae h2;clear h2;go_wp2;go_ret;exact⟨rfl,H2.out⟩
theorem pE (h:At w0 p fs s w) (hf:(pf,ax p nm size g ks.length c f)∈fs) (ho:s.opn=false) (g':Nat) (xU:Array Value) (he:∀xs w,(callFunc g' xs).run Tryz.prog w= .ok (.enter g' xs) w) (R:J.St→Prop)
  (cq:∀w1,At w0 p fs (J.cM s) w1→Calls Tryz.prog g' xU w1 λe w'=>(∃v,e= .returned v)∧∃s1,At w0 p fs s1 w'∧R s1)
  (hcm:∀s1 w1,At w0 p fs s1 w1→R s1→∃n:Int,Calls Tryz.prog 98 #[.pointer (some ⟨p,0,none⟩)] w1 λe w'=>e= .returned (.tuple #[.int .i64 n, .int .i64 0])∧At w0 p fs (J.aL s1) w'):
  Calls Tryz.prog 45 #[.pointer (some ⟨pf,0,none⟩), .func (.func g') #[] xU] w λe w'=>e= .returned (.string ⟨#[48,48]⟩)∧∃s1,At w0 p fs (J.aL s1) w'∧R s1:=by
 have HB:=ae (Az h ho);have hc:=aj w pf (h.get hf);have HF:=ae hf;have HC:=ae cq;have HM:=ae hcm;clear h hf cq hcm;go_enter Tryz.func45,Tryz.ntmps45;go_wp2_with fail;refine HB.out.mono ?_;rintro e w1 ⟨rfl,h1⟩;have H1:=ae h1;clear h1 hc HB;go_wp2_with fail;refine(HC.out _ H1.out).mono ?_;rintro e w2 ⟨⟨v,rfl⟩,s1,h2,hR⟩;obtain⟨n,hm⟩:=HM.out _ _ h2 hR;have hc2:=aj w2 pf (h2.get HF.out);have GI:=ae hm;have HR:=ae hR;clear h2 hm HC H1 HM HF hR;go_wp2_with fail;refine GI.out.mono ?_;rintro e w3 ⟨rfl,h3⟩;have H3:=ae h3;clear h3 hc2 GI;go_wp2;go_ret;exact⟨rfl,s1,H3.out,HR.out⟩
end
section
variable {w0 : World} {p : Nat} {nm : J.B} {w w' : World} {s : J.St} {fs : List (Nat × Obj)}
theorem AP (h:At w0 p fs s w) (nm:J.B) (size:Nat) (A:Option Addr) (n c ct:Nat) (vU:ct<4294967296) (hl:J.look s.now (X.cK nm)=if 0<ct then some (R.bI ct)else none) (hn:nm.length≤100):
  Calls Tryz.prog 107 #[lT nm size (.slice A n c), .pointer (some ⟨p,0,none⟩)] w λe w'=>e= .returned (.int .i64 (ct:Nat))∧At w0 p fs s w'∧Below w.heap.size w w':=by
 have hb1:Below w.heap.size w (w.alloc (er nm size (.slice A n c))):=(ak _ w).alloc (aq _) _;have HB:=ae hb1;have HU:=ae (fJ nm [67] (w.alloc (er nm size (.slice A n c))) (w.heap.size+1) (by simp) (by omega) (by simp));have e1:nm++0::[67]=X.cK nm:=rfl;rw[e1]at HU;have HG:=ae (λw1 (hb:Below w.heap.size w w1)=>fk (h.below hb) (X.cK nm) (by rw[X.ru];omega) (λl hh=>by
  rw[hl]at hh;split at hh
  ·injection hh with hh;subst hh;rw[R.dc];omega
  ·cases hh))
 rw[hl]at HG;clear h hl e1 hb1;by_cases h0:0<ct
 ·rw[if_pos h0]at HG;have hv:R.xF (R.bI ct)=ct:=R.pY vU;have HO:=ae (λw=>Lf (UInt8.ofNat (ct/16777216)) (UInt8.ofNat (ct/65536)) (UInt8.ofNat (ct/256)) (UInt8.ofNat ct) [] w);rw[show R.xF [UInt8.ofNat (ct/16777216),UInt8.ofNat (ct/65536),UInt8.ofNat (ct/256),UInt8.ofNat ct]=ct from hv]at HO;have e2:[UInt8.ofNat (ct/16777216),UInt8.ofNat (ct/65536),UInt8.ofNat (ct/256),UInt8.ofNat ct]=R.bI ct:=rfl;rw[e2]at HO;clear hv e2;go_enter Tryz.func107,Tryz.ntmps107;go_wp2_with fail;refine HU.out.mono ?_;rintro e w1 ⟨rfl,hb⟩;have hb2:Below w.heap.size w w1:=HB.out.trans (hb.mono HB.out.size);have br:=ae hb2;clear hb HU HB;go_wp2_with fail;refine(HG.out _ br.out).mono ?_;rintro e w2 ⟨v,rfl,hs,ha,hb3⟩;have hs:bT w2 _ v (R.bI ct):=hs;obtain⟨A2,c2,rfl,hc2,hby⟩:=hs.sl.by
  have hcv:=bu (c:=c2) hby
  have HA:=ae ha;have cX:=ae (hb2.trans (hb3.mono hb2.size));rw[R.dc]at hcv⊢;clear hs ha hb3 hb2 hby hc2 HG br;generalize(⟨(R.bI ct).toArray⟩:ByteArray)=T at hcv HO;go_wp2_with fail;refine(HO.out _).mono ?_;rintro e w3 ⟨rfl,hb4⟩;have fE:=ae (HA.out.below hb4);have eR:=ae (cX.out.trans (hb4.mono cX.out.size));clear hb4 HO cX HA hcv;go_wp2;go_ret;exact⟨rfl,fE.out,eR.out⟩
 ·obtain rfl:ct=0:=(by omega);rw[if_neg h0]at HG;go_enter Tryz.func107,Tryz.ntmps107;go_wp2_with fail;refine HU.out.mono ?_;rintro e w1 ⟨rfl,hb⟩;have hb2:Below w.heap.size w w1:=HB.out.trans (hb.mono HB.out.size);have br:=ae hb2;clear hb HU HB;go_wp2_with fail;refine(HG.out _ br.out).mono ?_;rintro e w2 ⟨v,rfl,hs,ha,hb3⟩;have hs:bT w2 _ v []:=hs;obtain⟨A2,c2,rfl,hc2,hby⟩:=hs.sl.by
  have HA:=ae ha;have cX:=ae (hb2.trans (hb3.mono hb2.size));rw[List.length_nil];clear hs ha hb3 hb2 hby hc2 HG br;go_wp2;go_ret;exact⟨rfl,HA.out,cX.out⟩
theorem LC (nm:J.B) (x:J.B):Lib.trimPrefix (X.pre nm 0++x) (X.pre nm 0)=x:=by
 unfold Lib.trimPrefix;rw[if_pos (by unfold Lib.hasPrefix;simp)];simp
theorem sF (h:At w0 p fs s w) (nm:J.B) (size:Nat) (A:Option Addr) (n c i:Nat) (x q:J.B) (hi:i<256) (hn:nm.length≤100) (hx:x.length≤800) (hq:q.length≤800) (h0:i=0→x=q) (h1:i≠0→(J.look s.now (X.pre nm i++x)).getD []=q)
  (hl:∀l,J.look s.now (X.bS nm 0 q 0)=some l→l.length≤90000000):
  Calls Tryz.prog 109 #[lT nm size (.slice A n c), .pointer (some ⟨p,0,none⟩), .int .i64 (i:Nat), .string ⟨(X.pre nm i++x).toArray⟩] w λe w'=>∃v,e= .returned (.tuple #[v, .string ⟨q.toArray⟩])∧bT w' (· <w.heap.size) v ((J.look s.now (X.bS nm 0 q 0)).getD [])∧At w0 p fs s w'∧Below w.heap.size w w':=by
 have hpl:=X.gU nm i;have hb1:Below w.heap.size w (w.alloc (er nm size (.slice A n c))):=(ak _ w).alloc (aq _) _;have HB:=ae hb1;have HP:=ae (bL nm size A n c 0 (by decide) (by omega) (w.alloc (er nm size (.slice A n c))));have HE:=ae (λW=>dw nm size A n c 0 0 q (by decide) (by decide) (by omega) (by omega) W);have HG:=ae (λw1 (hb:Below w.heap.size w w1)=>fk (h.below hb) (X.bS nm 0 q 0) (by have:=X.cR nm 0 q 0;omega) hl);have HT:=ae (λW=>Tryz.strings_TrimPrefix ⟨(X.pre nm i++x).toArray⟩ ⟨(X.pre nm 0).toArray⟩ W);have et1:(⟨(X.pre nm i++x).toArray⟩:ByteArray).data.toList=X.pre nm i++x:=rfl;have et2:(⟨(X.pre nm 0).toArray⟩:ByteArray).data.toList=X.pre nm 0:=rfl;rw[et1,et2]at HT;generalize(J.look s.now (X.bS nm 0 q 0)).getD []=R0 at HG⊢;generalize(J.look s.now (X.bS nm 0 q 0)).isSome=R1 at HG;clear hl et1 et2 hb1;by_cases Ff:i=0
 ·subst Ff;obtain rfl:=h0 rfl;rw[LC]at HT;generalize(⟨(X.pre nm 0++x).toArray⟩:ByteArray)=E at HT⊢;generalize(⟨(X.pre nm 0).toArray⟩:ByteArray)=P at HT HP;generalize(⟨(X.bS nm 0 x 0).toArray⟩:ByteArray)=E0 at HG HE;generalize(⟨x.toArray⟩:ByteArray)=XQ at HT HE⊢;clear h h0 h1;go_enter Tryz.func109,Tryz.ntmps109;go_wp2_with fail;refine HP.out.mono ?_;rintro e w1 ⟨rfl,hb⟩;have br:=ae (HB.out.trans (hb.mono HB.out.size));have hcb:=aj w1 w.heap.size ((hb.block w.heap.size (by simp)).trans (heap_alloc_new w _));clear hb HP HB;go_wp2_with fail;refine(HT.out _).mono ?_;rintro e w1' ⟨rfl,wW⟩;subst wW;clear HT;go_wp2_with fail;refine(HE.out _).mono ?_;rintro e w2 ⟨rfl,hb⟩;have cX:=ae (br.out.trans (hb.mono br.out.size));clear hb HE br hcb;go_wp2_with fail;refine(HG.out _ cX.out).mono ?_;rintro e w3 ⟨v,rfl,hs,ha,hb⟩;have HA:=ae ha;have HS:=ae (hs.weak (M':=(· <w.heap.size)) (λk hk=>av hk cX.out.size));have eR:=ae (cX.out.trans (hb.mono cX.out.size));clear hs ha hb HG cX;go_wp2;go_ret2;exact⟨_,rfl,HS.out,HA.out,eR.out⟩
 ·have Lg:(0:Int)<(i:Nat):=(by omega);have uk:=ae (λw1 (hb:Below w.heap.size w w1)=>fk (h.below hb) (X.pre nm i++x) (by rw[List.length_append];omega) (λl hh=>by have:=h1 Ff;rw[hh]at this;have this:l=q:=this;subst this;omega));rw[h1 Ff]at uk;generalize(J.look s.now (X.pre nm i++x)).isSome=R2 at uk;generalize(⟨(X.pre nm i++x).toArray⟩:ByteArray)=E at HT uk⊢;generalize(⟨(X.pre nm 0).toArray⟩:ByteArray)=P at HT HP;generalize(⟨(X.bS nm 0 q 0).toArray⟩:ByteArray)=E0 at HG HE;generalize hXQ:(⟨q.toArray⟩:ByteArray)=XQ at HE⊢;have HXQ:=ae hXQ;clear h h0 h1 hXQ;go_enter Tryz.func109,Tryz.ntmps109;go_wp2_with fail;refine HP.out.mono ?_;rintro e w1 ⟨rfl,hb⟩;have br:=ae (HB.out.trans (hb.mono HB.out.size));have vV:=(hb.block w.heap.size (by simp)).trans (heap_alloc_new w (er nm size (.slice A n c)));clear hb HP HB;go_wp2_with fail;refine(HT.out _).mono ?_;rintro e w1' ⟨rfl,wW⟩;subst wW;clear HT;go_wp2_with fail;refine(uk.out _ br.out).mono ?_;rintro e w2 ⟨v1,rfl,hs,ha,hb⟩;obtain⟨A2,c2,rfl,hc2,hby⟩:=hs.sl.by
  have hcv:=bu (c:=c2) hby
  have hcb:=aj w2 w.heap.size ((hb.block w.heap.size (ai vV).1).trans vV);have cX:=ae (br.out.trans (hb.mono br.out.size));rw[HXQ.out]at hcv;clear hs ha hb uk br vV hby hc2;go_wp2_with fail;refine(HE.out _).mono ?_;rintro e w3 ⟨rfl,hb⟩;have eR:=ae (cX.out.trans (hb.mono cX.out.size));clear hb HE cX hcb hcv;go_wp2_with fail;refine(HG.out _ eR.out).mono ?_;rintro e w4 ⟨v,rfl,hs,ha,hb⟩;have HA:=ae ha;have HS:=ae (hs.weak (M':=(· <w.heap.size)) (λk hk=>av hk eR.out.size));have ed:=ae (eR.out.trans (hb.mono eR.out.size));clear hs ha hb HG eR;go_wp2;go_ret2;exact⟨_,rfl,HS.out,HA.out,ed.out⟩
end
structure XF (nm:J.B) (size:Nat) (ks:List X.Ky) (rows:List X.Row) (ct:Nat) (now:List (J.B×J.B)):Prop where
 con:X.iw nm (X.attr size ks) ks rows ct now
 rows:X.aQ ks size ct rows
 ks:X.eo ks size
 ct:ct<1000000
 nm1:1≤nm.length
 nm:nm.length≤100
 many:now.length≤100000
 len:∀k l,J.look now k=some l→l.length≤8192
def moreB (ks:List X.Ky) (rows:List X.Row) (i:Nat) (r:X.Row):Bool:=match(X.bQ ks i rows).find? (X.nk ks i r ·)with
 |some x=>decide (X.val ks i x.b=X.val ks i r.b)
 |none=>false
def gQ (ks:List X.Ky) (rows:List X.Row) (i:Nat) (r:X.Row):J.B:=if 0<i∧moreB ks rows i r=true then [48,50]else [48,48]
section
variable {w0 : World} {p pf g c size ct u : Nat} {nm : J.B} {ks : List X.Ky} {rows : List X.Row} {f : Fv} {w w' : World} {s s1 s2 : J.St} {fs : List (Nat × Obj)} {ok : Obj}
theorem XF.lens (h:XF nm size ks rows ct s.now) {i:Nat} (hi:i<ks.length):1≤X.lens ks i∧X.lens ks i≤160:=by
 have:=h.ks.key _ (X.aU hi);exact⟨this.1,this.2.1⟩
theorem XF.vlen (h:XF nm size ks rows ct s.now) {i:Nat} (hi:i<ks.length) {r:X.Row} (hr:r∈rows):(X.val ks i r.b).length=X.lens ks i:=X.aV (h.rows.fit r hr) hi
theorem wX (ks:List X.Ky) (i:Nat) (r:X.Row):∃y:J.B,y.length≤4∧X.tail i (X.val ks i r.b) (r.t i)=X.val ks i r.b++y:=by
 unfold X.tail;split
 ·exact⟨[],by simp,by simp⟩
 ·exact⟨R.bI (r.t i),by rw[R.dc];exact aq _,rfl⟩
theorem ke (h:XF nm size ks rows ct s.now) {i:Nat} (hi:i<ks.length) {r:X.Row} (hr:r∈rows) (w:World) (hk:dB w g ks):
  Calls Tryz.prog 51 #[lT nm size (.slice (some ⟨g,0,none⟩) ks.length c), .int .i64 (i:Nat), .string ⟨(X.aN nm ks i r).toArray⟩] w λe w'=>e= .returned (.string ⟨(X.val ks i r.b).toArray⟩)∧Below w.heap.size w w':=by
 obtain⟨y,hy,e⟩:=wX ks i r;have hl:=h.vlen hi hr;have hl2:=h.lens hi;have h8:=h.ks.one;have nA:=h.nm;have:=sA nm size g c ks i (X.tail i (X.val ks i r.b) (r.t i)) w hk hi (by omega) (by omega) (by rw[e,List.length_append];omega) (by rw[e,List.length_append];omega);have e2:(X.tail i (X.val ks i r.b) (r.t i)).take (X.lens ks i)=X.val ks i r.b:=by rw[e,←hl,List.take_left]
 rw[e2]at this;exact this
theorem pF (h:At w0 p fs s w) (hX:XF nm size ks rows ct s.now) {i:Nat} (hi:i<ks.length) {r:X.Row} (hr:r∈rows) (A:Option Addr) (n c:Nat):
  Calls Tryz.prog 109 #[lT nm size (.slice A n c), .pointer (some ⟨p,0,none⟩), .int .i64 (i:Nat), .string ⟨(X.aN nm ks i r).toArray⟩] w λe w'=>∃v,e= .returned (.tuple #[v, .string ⟨(X.val ks 0 r.b).toArray⟩])∧bT w' (· <w.heap.size) v r.b∧At w0 p fs s w'∧Below w.heap.size w w':=by
 obtain⟨y,hy,e⟩:=wX ks i r;have h8:=hX.ks.one;have hl:=hX.vlen hi hr;have hl2:=hX.lens hi;have hl0:=hX.vlen (i:=0) (by omega) hr;have hl3:=hX.lens (i:=0) (by omega);have hlk:=hX.con.qD hX.rows hr;have:=sF h nm size A n c i (X.tail i (X.val ks i r.b) (r.t i)) (X.val ks 0 r.b) (by omega) hX.nm (by rw[e,List.length_append];omega) (by omega) (λe0=>by subst e0;rfl) (λhne=>by
  have:=hX.con.uC hX.rows (by have:=hX.ct;omega) hne hi hr;show(J.look s.now (X.aN nm ks i r)).getD []=_;rw[this];rfl) (λl hl=>by have:=hX.len _ _ hl;omega)
 rw[hlk]at this;exact this
theorem wY (h:At w0 p ((pf,ax p nm size g ks.length c f)::fs) s w) (hf:∀x∈fs,x.1≠pf) (bC:(g,ok)∈fs) (hO:bJ ok ks) (ht:J.Two s) (hX:XF nm size ks rows ct s.now) (hkey:f.key<ks.length) (r:X.Row) (hr:r∈rows):
  Calls Tryz.prog 67 #[.pointer (some ⟨pf,0,none⟩), .string ⟨(X.aN nm ks f.key r).toArray⟩] w λe w'=>∃v,e= .returned (.tuple #[v, .string ⟨(gQ ks rows f.key r).toArray⟩])∧bT w' (· <w.heap.size) v r.b∧At w0 p ((pf,ax p nm size g ks.length c {f with at_:=X.aN nm ks f.key r,same:=false,lost:=false,last:=X.val ks 0 r.b,read:=true})::fs) s w':=by
 have h0:=h.get af;have h0:w.heap[pf]? =some (ax p nm size g ks.length c f):=h0;have hlt:=(ai h0).1;have hR:=λw1 (hb:Below w.heap.size w w1)=>pF (h.below hb) hX hkey hr (some ⟨g,0,none⟩) ks.length c;have hP:=λW=>bL nm size (some ⟨g,0,none⟩) ks.length c f.key (by have:=hX.ks.one;omega) (by have:=hX.nm;omega) W;have xY:=λw1 t (hh:At w0 p ((pf,ax p nm size g ks.length c {f with at_:=X.aN nm ks f.key r,same:=false,lost:=false,last:=X.val ks 0 r.b,read:=true})::fs) s w1)=>iA hh ⟨(X.pre nm f.key).toArray⟩ (X.aN nm ks f.key r) t (by have:=hX.many;omega);have xZ:=λw1 (hh:At w0 p ((pf,ax p nm size g ks.length c {f with at_:=X.aN nm ks f.key r,same:=false,lost:=false,last:=X.val ks 0 r.b,read:=true})::fs) s w1)=>xY w1 false hh;rw[hX.con.wO hX.ks hX.rows (by have:=hX.ct;omega) hkey hr]at xZ;have hV:=λx (hx:x∈rows) w1 (hk:dB w1 g ks)=>ke (c:=c) hX hkey hx w1 hk;have WU:=hV r hr;have hK:=λw1 (hh:At w0 p ((pf,ax p nm size g ks.length c {f with at_:=X.aN nm ks f.key r,same:=false,lost:=false,last:=X.val ks 0 r.b,read:=true})::fs) s w1)=>hO.2 w1 g (hh.get (ag _ bC));have hF:=λw1 w2 (hh:At w0 p ((pf,ax p nm size g ks.length c f)::fs) s w1) (hg:w1.grownBy w2 (some pf)) (hq:w2.heap[pf]? =some (ax p nm size g ks.length c {f with at_:=X.aN nm ks f.key r,same:=false,lost:=false,last:=X.val ks 0 r.b,read:=true}))=>cz hh hf ht hg hq;have hM:∀x,(X.bQ ks f.key rows).find? (X.nk ks f.key r ·)=some x→x∈rows:=λx hx=>(X.bt ks f.key x rows).1 (X.cL hx).1;obtain⟨f2,hf2⟩:∃f2:Fv,f2={f with at_:=X.aN nm ks f.key r,same:=false,lost:=false,last:=X.val ks 0 r.b,read:=true}:=⟨_,rfl⟩;have hk2:f2.key=f.key:=by rw[hf2]
 rw[←hf2]at xZ hK hF⊢;have AQ:=ae hf2;have HR:=ae hR;have HP:=ae hP;have wZ:=ae xZ;have HV:=ae hV;have TP:=ae WU;have HK:=ae hK;have HF:=ae hF;have HM:=ae hM;have aW:=ae hlt;have H0:=ae h0;have qI:gQ ks rows f.key r=if 0<f.key∧moreB ks rows f.key r=true then [48,50]else [48,48]:=rfl;unfold moreB at qI;have sX:=ae qI;generalize gQ ks rows f.key r=ts at sX⊢;generalize(⟨(X.pre nm f.key).toArray⟩:ByteArray)=P at HP wZ;clear h hf bC hO ht hX hkey hR hP xY xZ hV WU hK hF hM qI hf2 hr;go_enter Tryz.func67,Tryz.ntmps67;go_upto_region 1 with fail;refine aD 18 (.rd 0 (.rd 1 (.rd 2 (.rd 3 (.rd 4 (.rd 5 (.rd 6 (.rd 7 (.rd 8 (.rd 9 (.rd 10 (.rd 11 (.rd 12 (.wr 13 (.rd 14 (.rd 15 (.rd 16 (.wr 17 .fin)))))))))))))))))) (λw'=>w'.heap[pf]? =some (ax p nm size g ks.length c f)) (by kernel_rfl) (by kernel_rfl) (λc a d v w h=>by cases d<;>exact h) h0 ?_;repeat
  refine az (v:= ?_) (by rfl) (by rfl) (λw' hS=> ?_) (λK hK=> ?_);rotate_left
  ·have hc:=aj w' pf hS;clear hS;go_simp;try with_reducible rfl
  go_simp;refine hK _ ?_;clear hK K
 clear h0;refine wpPm_write (by rfl) (λK hK=> ?_);go_simp;refine(HR.out _ ((ak _ w).drew)).mono ?_;rintro e w1 ⟨v,rfl,hs,ha,hb⟩;have zl:Below w.heap.size w w1:=((ak _ w).drew).trans hb;have h1:w1.heap[pf]? =some (ax p nm size g ks.length c f):=ha.get af;refine hK.out _ _ (λw'=>w'.heap[pf]? =some (ax p nm size g ks.length c f)) (λ_ h=>h) (ha.get af) ?_;clear hK K;repeat
  refine az (v:= ?_) (by rfl) (by rfl) (λw' hS=> ?_) (λK hK=> ?_);rotate_left
  ·have hc:=aj w' pf hS;clear hS;go_simp;try with_reducible rfl
  go_simp;refine hK _ ?_;clear hK K
 refine wpPm_write (by rfl) (λK hK=> ?_);go_simp;refine hK.out _ _ (λw'=>w'.heap[pf]? =some (ax p nm size g ks.length c f)) (λ_ h=>h) h1 ?_;clear hK K;have hs:bT w1 (· <w.heap.size) v r.b:=hs;have hz:=aC h1;have hc:=aj w1 pf h1;have vO:=aA (aA (aA (aA (aA (World.grownBy.refl w1 (some pf)) 7 (.string ⟨(X.aN nm ks f.key r).toArray⟩)) 8 (.bool false)) 9 (.bool false)) 10 (.string ⟨(X.val ks 0 r.b).toArray⟩)) 11 (.bool true);have Dt:=aB (aB (aB (aB (aB h1 7 (.string ⟨(X.aN nm ks f.key r).toArray⟩)) 8 (.bool false)) 9 (.bool false)) 10 (.string ⟨(X.val ks 0 r.b).toArray⟩)) 11 (.bool true);have eI:=ae (HF.out _ _ ha vO (by rw[AQ.out];exact Dt));have zN:=ae (hs.step (Step.cC vO (λk e _=>by injection e with e;subst e;exact aW.out):Step _ (· <w.heap.size) _ _));clear vO Dt hs ha hb HR HF;show wpList _ _ _ _ _ _;go_wp2_with fail;clear h1 hz hc;refine aM (λW5=>At w0 p ((pf,ax p nm size g ks.length c f2)::fs) s W5∧bT W5 (· <w.heap.size) v r.b) ⟨eI.out,zN.out⟩ ?_;rintro W5 ⟨vW,hs5⟩;have h5:W5.heap[pf]? =some (ax p nm size g ks.length c f2):=vW.get af;have HA:=ae vW;have HS:=ae hs5;clear eI zN vW hs5;refine aD 8 (.rd 0 (.rd 1 (.rd 2 (.rd 3 (.rd 4 (.rd 5 (.rd 6 (.rd 7 .fin)))))))) (λw'=>w'.heap[pf]? =some (ax p nm size g ks.length c f2)) (by kernel_rfl) (by kernel_rfl) (λc a d v w h=>by cases d<;>exact h) h5 ?_;repeat
  refine az (v:= ?_) (by rfl) (by rfl) (λw' hS=> ?_) (λK hK=> ?_);rotate_left
  ·have hc:=aj w' pf hS;rw[hk2]at hc;clear hS;go_simp;try with_reducible rfl
  go_simp;refine hK _ ?_;clear hK K
 show wpList _ _ _ _ _ _;go_wp2_with fail;refine(HP.out _).mono ?_;rintro e W6 ⟨rfl,hb⟩;have hb:Below W5.heap.size W5 W6:=((ak _ W5).drew).trans hb;have dC:=ae (HA.out.below hb);have WW:=ae (HS.out.step (Step.aI hb));have hc:=aj W6 pf (dC.out.get af);clear hb HP HA HS h5;go_wp2_with fail;refine(wZ.out _ dC.out).mono ?_;rintro e W7 ⟨rfl,hb⟩;have cQ:=ae (dC.out.below hb);have po:=ae (WW.out.step (Step.aI hb));clear hb hc wZ dC WW;by_cases ej:f.key=0
 ·have fP:¬(0:Int)<(f.key:Nat):=(by omega);have qI:ts=[48,48]:=(by rw[sX.out,if_neg (by omega)]);subst qI;clear sX;generalize((List.find? (λx=>X.nk ks f.key r x) (X.bQ ks f.key rows)).map (X.aN nm ks f.key))=mo;go_wp2_with fail;refine aK (.rd 0 (.rd 1 (.rd 2 (.rd 3 (.rd 4 (.rd 5 (.rd 6 (.rd 7 (.rd 8 (.rd 9 (.rd 10 (.rd 11 (.rd 12 (.rd 13 (.rd 14 (.rd 15 (.rd 16 (.rd 17 (.rd 19 (.rd 20 (.rd 21 (.rd 22 (.rd 23 (.rd 24 (.rd 25 (.rd 26 (.rd 27 (.wr 18 (.wr 28 (.rd 29 (.rd 30 .fin))))))))))))))))))))))))))))))) (λw'=>At w0 p ((pf,ax p nm size g ks.length c f2)::fs) s w'∧bT w' (· <w.heap.size) v r.b) (by kernel_rfl) (by kernel_rfl) (λc a d v w h=>by cases d<;>exact h) ⟨cQ.out.below ((ak _ _).drew),po.out.step (Step.aI ((ak _ _).drew))⟩ ?_;repeat
   first
   |refine az (v:= ?_) (by rfl) (by rfl) (λw' hS=> ?_) (λK hK=> ?_)
    rotate_left
    ·have hc:=aj w' pf (hS.1.get af);rw[hk2]at hc;clear hS;go_simp;try with_reducible rfl
    go_simp;refine hK _ ?_;clear hK K
   |refine ay (by rfl) (by rfl) (λK hK=> ?_)
    go_simp;refine hK _ ?_;clear hK K
  refine wpPm_write (by rfl) (λK hK=> ?_);go_simp;refine hK.out _ _ (λw'=>At w0 p ((pf,ax p nm size g ks.length c f2)::fs) s w'∧bT w' (· <w.heap.size) v r.b) (λ_ h=>h) ⟨cQ.out.below ((ak _ _).drew),po.out.step (Step.aI ((ak _ _).drew))⟩ ?_;clear hK K;refine wpPm_write (by rfl) (λK hK=> ?_);go_simp;refine hK.out _ _ (λw'=>At w0 p ((pf,ax p nm size g ks.length c f2)::fs) s w'∧bT w' (· <w.heap.size) v r.b) (λ_ h=>h) ⟨cQ.out.below ((ak _ _).drew),po.out.step (Step.aI ((ak _ _).drew))⟩ ?_;clear hK K;repeat
   first
   |refine az (v:= ?_) (by rfl) (by rfl) (λw' hS=> ?_) (λK hK=> ?_)
    rotate_left
    ·have hc:=aj w' pf (hS.1.get af);rw[hk2]at hc;clear hS;go_simp;try with_reducible rfl
    go_simp;refine hK _ ?_;clear hK K
   |refine ay (by rfl) (by rfl) (λK hK=> ?_)
    go_simp;refine hK _ ?_;clear hK K
  show wpList _ _ _ _ _ _;go_wp2;go_ret2;exact⟨_,rfl,po.out.step (Step.aI ((ak _ _).drew)),cQ.out.below ((ak _ _).drew)⟩
 ·have fP:(0:Int)<(f.key:Nat):=(by omega);have hk3:0<f.key:=(by omega);cases LD:(X.bQ ks f.key rows).find? (X.nk ks f.key r ·)with
  |none=>
   rw[LD]at sX;have qI:ts=[48,48]:=(by rw[sX.out,if_neg (λh=>by cases h.2)]);subst qI;clear sX LD;go_wp2_with fail;refine aK (.rd 0 (.rd 1 (.rd 2 (.rd 3 (.rd 4 (.rd 5 (.rd 6 (.rd 7 (.rd 8 (.rd 9 (.rd 10 (.rd 11 (.rd 12 (.rd 13 (.rd 14 (.rd 15 (.rd 16 (.rd 17 (.rd 19 (.rd 20 (.rd 21 (.rd 22 (.rd 23 (.rd 24 (.rd 25 (.rd 26 (.rd 27 (.wr 18 (.wr 28 (.rd 29 (.rd 30 .fin))))))))))))))))))))))))))))))) (λw'=>At w0 p ((pf,ax p nm size g ks.length c f2)::fs) s w'∧bT w' (· <w.heap.size) v r.b) (by kernel_rfl) (by kernel_rfl) (λc a d v w h=>by cases d<;>exact h) ⟨cQ.out.below ((ak _ _).drew),po.out.step (Step.aI ((ak _ _).drew))⟩ ?_;repeat
    first
    |refine az (v:= ?_) (by rfl) (by rfl) (λw' hS=> ?_) (λK hK=> ?_)
     rotate_left
     ·have hc:=aj w' pf (hS.1.get af);rw[hk2]at hc;clear hS;go_simp;try with_reducible rfl
     go_simp;refine hK _ ?_;clear hK K
    |refine ay (by rfl) (by rfl) (λK hK=> ?_)
     go_simp;refine hK _ ?_;clear hK K
   refine wpPm_write (by rfl) (λK hK=> ?_);go_simp;refine hK.out _ _ (λw'=>At w0 p ((pf,ax p nm size g ks.length c f2)::fs) s w'∧bT w' (· <w.heap.size) v r.b) (λ_ h=>h) ⟨cQ.out.below ((ak _ _).drew),po.out.step (Step.aI ((ak _ _).drew))⟩ ?_;clear hK K;refine wpPm_write (by rfl) (λK hK=> ?_);go_simp;refine hK.out _ _ (λw'=>At w0 p ((pf,ax p nm size g ks.length c f2)::fs) s w'∧bT w' (· <w.heap.size) v r.b) (λ_ h=>h) ⟨cQ.out.below ((ak _ _).drew),po.out.step (Step.aI ((ak _ _).drew))⟩ ?_;clear hK K;repeat
    first
    |refine az (v:= ?_) (by rfl) (by rfl) (λw' hS=> ?_) (λK hK=> ?_)
     rotate_left
     ·have hc:=aj w' pf (hS.1.get af);rw[hk2]at hc;clear hS;go_simp;try with_reducible rfl
     go_simp;refine hK _ ?_;clear hK K
    |refine ay (by rfl) (by rfl) (λK hK=> ?_)
     go_simp;refine hK _ ?_;clear hK K
   show wpList _ _ _ _ _ _;go_wp2;go_ret2;exact⟨_,rfl,po.out.step (Step.aI ((ak _ _).drew)),cQ.out.below ((ak _ _).drew)⟩
  |some x=>
   rw[LD]at sX;have hx:=HM.out x LD;have Pw:=ae (HV.out x hx);have qI:ts=if X.val ks f.key x.b=X.val ks f.key r.b then [48,50]else [48,48]:=by
    rw[sX.out];by_cases e:X.val ks f.key x.b=X.val ks f.key r.b
    ·rw[if_pos ⟨by omega,decide_eq_true e⟩,if_pos e]
    ·rw[if_neg (λh=>e (of_decide_eq_true h.2)),if_neg e]
   have js:=df (X.val ks f.key x.b) (X.val ks f.key r.b);have uI:=ae qI;clear sX LD hx qI HV HM;generalize(⟨(X.val ks f.key x.b).toArray⟩:ByteArray)=vx at js Pw;generalize hvr:(⟨(X.val ks f.key r.b).toArray⟩:ByteArray)=vr at js TP;clear hvr;by_cases Hf:X.val ks f.key x.b=X.val ks f.key r.b
   ·rw[decide_eq_true Hf]at js;have qI:ts=[48,50]:=(by rw[uI.out,if_pos Hf]);subst qI;clear uI Hf;go_wp2_with fail;refine aK (.rd 0 (.rd 1 (.rd 2 (.rd 3 (.rd 4 (.rd 5 (.rd 6 (.rd 7 (.rd 8 (.rd 9 (.rd 10 (.rd 11 (.rd 12 (.rd 13 (.rd 14 (.rd 15 (.rd 16 (.rd 17 (.rd 19 (.rd 20 (.rd 21 (.rd 22 (.rd 23 (.rd 24 (.rd 25 (.rd 26 (.rd 27 (.wr 18 (.wr 28 (.rd 29 (.rd 30 .fin))))))))))))))))))))))))))))))) (λw'=>At w0 p ((pf,ax p nm size g ks.length c f2)::fs) s w'∧bT w' (· <w.heap.size) v r.b) (by kernel_rfl) (by kernel_rfl) (λc a d v w h=>by cases d<;>exact h) ⟨cQ.out.below ((ak _ _).drew),po.out.step (Step.aI ((ak _ _).drew))⟩ ?_;repeat
     first
     |refine az (v:= ?_) (by rfl) (by rfl) (λw' hS=> ?_) (λK hK=> ?_)
      rotate_left
      ·have hc:=aj w' pf (hS.1.get af);rw[hk2]at hc;clear hS;go_simp;try with_reducible rfl
      go_simp;refine hK _ ?_;clear hK K
     |refine ay (by rfl) (by rfl) (λK hK=> ?_)
      go_simp;refine hK _ ?_;clear hK K
    refine wpPm_write (by rfl) (λK hK=> ?_);go_simp;refine(Pw.out _ (HK.out _ (cQ.out.below ((ak _ _).drew)))).mono ?_;rintro e W8 ⟨rfl,hb⟩;have hb:Below W7.heap.size W7 W8:=((ak _ W7).drew).trans hb;have ig:=ae (cQ.out.below hb);have Hg:=ae (po.out.step (Step.aI hb));refine hK.out _ _ (λw'=>At w0 p ((pf,ax p nm size g ks.length c f2)::fs) s w'∧bT w' (· <w.heap.size) v r.b) (λ_ h=>h) ⟨ig.out,Hg.out⟩ ?_;clear hK K hb;refine wpPm_write (by rfl) (λK hK=> ?_);go_simp;refine(TP.out _ (HK.out _ ig.out)).mono ?_;rintro e W9 ⟨rfl,hb⟩;have iD:=ae (ig.out.below hb);have Hh:=ae (Hg.out.step (Step.aI hb));refine hK.out _ _ (λw'=>At w0 p ((pf,ax p nm size g ks.length c f2)::fs) s w'∧bT w' (· <w.heap.size) v r.b) (λ_ h=>h) ⟨iD.out,Hh.out⟩ ?_;clear hK K hb;repeat
     first
     |refine az (v:= ?_) (by rfl) (by rfl) (λw' hS=> ?_) (λK hK=> ?_)
      rotate_left
      ·have hc:=aj w' pf (hS.1.get af);rw[hk2]at hc;clear hS;go_simp;try with_reducible rfl
      go_simp;refine hK _ ?_;clear hK K
     |refine ay (by rfl) (by rfl) (λK hK=> ?_)
      go_simp;refine hK _ ?_;clear hK K
    show wpList _ _ _ _ _ _;go_wp2;go_ret2;exact⟨_,rfl,Hh.out,iD.out⟩
   ·rw[decide_eq_false Hf]at js;have qI:ts=[48,48]:=(by rw[uI.out,if_neg Hf]);subst qI;clear uI Hf;go_wp2_with fail;refine aK (.rd 0 (.rd 1 (.rd 2 (.rd 3 (.rd 4 (.rd 5 (.rd 6 (.rd 7 (.rd 8 (.rd 9 (.rd 10 (.rd 11 (.rd 12 (.rd 13 (.rd 14 (.rd 15 (.rd 16 (.rd 17 (.rd 19 (.rd 20 (.rd 21 (.rd 22 (.rd 23 (.rd 24 (.rd 25 (.rd 26 (.rd 27 (.wr 18 (.wr 28 (.rd 29 (.rd 30 .fin))))))))))))))))))))))))))))))) (λw'=>At w0 p ((pf,ax p nm size g ks.length c f2)::fs) s w'∧bT w' (· <w.heap.size) v r.b) (by kernel_rfl) (by kernel_rfl) (λc a d v w h=>by cases d<;>exact h) ⟨cQ.out.below ((ak _ _).drew),po.out.step (Step.aI ((ak _ _).drew))⟩ ?_;repeat
     first
     |refine az (v:= ?_) (by rfl) (by rfl) (λw' hS=> ?_) (λK hK=> ?_)
      rotate_left
      ·have hc:=aj w' pf (hS.1.get af);rw[hk2]at hc;clear hS;go_simp;try with_reducible rfl
      go_simp;refine hK _ ?_;clear hK K
     |refine ay (by rfl) (by rfl) (λK hK=> ?_)
      go_simp;refine hK _ ?_;clear hK K
    refine wpPm_write (by rfl) (λK hK=> ?_);go_simp;refine(Pw.out _ (HK.out _ (cQ.out.below ((ak _ _).drew)))).mono ?_;rintro e W8 ⟨rfl,hb⟩;have hb:Below W7.heap.size W7 W8:=((ak _ W7).drew).trans hb;have ig:=ae (cQ.out.below hb);have Hg:=ae (po.out.step (Step.aI hb));refine hK.out _ _ (λw'=>At w0 p ((pf,ax p nm size g ks.length c f2)::fs) s w'∧bT w' (· <w.heap.size) v r.b) (λ_ h=>h) ⟨ig.out,Hg.out⟩ ?_;clear hK K hb;refine wpPm_write (by rfl) (λK hK=> ?_);go_simp;refine(TP.out _ (HK.out _ ig.out)).mono ?_;rintro e W9 ⟨rfl,hb⟩;have iD:=ae (ig.out.below hb);have Hh:=ae (Hg.out.step (Step.aI hb));refine hK.out _ _ (λw'=>At w0 p ((pf,ax p nm size g ks.length c f2)::fs) s w'∧bT w' (· <w.heap.size) v r.b) (λ_ h=>h) ⟨iD.out,Hh.out⟩ ?_;clear hK K hb;repeat
     first
     |refine az (v:= ?_) (by rfl) (by rfl) (λw' hS=> ?_) (λK hK=> ?_)
      rotate_left
      ·have hc:=aj w' pf (hS.1.get af);rw[hk2]at hc;clear hS;go_simp;try with_reducible rfl
      go_simp;refine hK _ ?_;clear hK K
     |refine ay (by rfl) (by rfl) (λK hK=> ?_)
      go_simp;refine hK _ ?_;clear hK K
    show wpList _ _ _ _ _ _;go_wp2;go_ret2;exact⟨_,rfl,Hh.out,iD.out⟩
end
end Go.Proofs.YtipljcmmokaokaaGreat
