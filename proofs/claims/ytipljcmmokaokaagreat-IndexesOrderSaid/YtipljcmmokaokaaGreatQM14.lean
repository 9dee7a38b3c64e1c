import Derived.Test.YtipljcmmokaokaaGreatQM13
set_option linter.unusedVariables false
set_option linter.unusedSimpArgs false
set_option maxHeartbeats 2000000
namespace Go.Proofs.YtipljcmmokaokaaGreat
open Go.RowKit Go.Lib Go.Maps Go.WideMaps Go.Sort
set_option maxRecDepth 100000
namespace X
def opened (s:J.St) (chs:List J.cn) (now:List (B×B)):J.St:={s with opn:=true,spoilt:=false,changes:=chs,size:=13+(J.encs chs).length,was:=s.now,now:=now}
theorem qm (s:J.St):J.cT s=opened s [] s.now:=rfl
theorem mZ (s:J.St) (chs:List J.cn) (now:List (B×B)) (c:J.cn) (h:13+(J.encs chs).length+c.len≤4194304):J.add (opened s chs now) c=(opened s (chs++[c]) (if c.gone then J.del now c.key else J.ins now c.key c.val),0):=by
 unfold J.add;rw[if_neg (by show¬4194304 - (13+(J.encs chs).length)<c.len;omega)];unfold J.apply opened;have e:13+(J.encs (chs++[c])).length=13+(J.encs chs).length+c.len:=by
  rw[J.kE,J.dY];simp[J.encs];omega
 rw[e]
structure pg (u:Nat) (now:List (B×B)) (s:J.St):Prop where
 opn:s.opn=false
 ar:s.area=0
 now:s.now=now
 base:s.base=J.MQ
 inv:J.Inv True s
 wr:∀x∈s.writes,x.kind=0∧x.idx=0∧20≤x.bs.length
 h0:s.disk.h0=[]
 h1:s.disk.h1=[]
 sum:s.logged=(s.writes.map fun w=>w.bs.length).sum
 log:s.logged≤12000*u
 a0:s.disk.a0.length≤12000*u
 cm:s.commits=s.writes.length
 cu:s.commits≤u
 many:s.now.length≤8*u+2
theorem pg.mono {u v:Nat} {now:List (B×B)} {s:J.St} (h:pg u now s) (hv:u≤v):pg v now s:=
 ⟨h.opn,h.ar,h.now,h.base,h.inv,h.wr,h.h0,h.h1,h.sum,au h.log (Nat.mul_le_mul_left _ hv),au h.a0 (Nat.mul_le_mul_left _ hv),h.cm,au h.cu hv,by have:=h.many;omega⟩
theorem Kh:pg 0 [] J.new:=
 ⟨rfl,rfl,rfl,rfl,J.CN True,(fun x h=>by cases h),rfl,rfl,rfl,aj _,aj _,rfl,aj _,Nat.zero_le _⟩
theorem pg.two {u:Nat} {now:List (B×B)} {s:J.St} (h:pg u now s):J.Two s:=
 ⟨fun x hx=>by have:=(h.wr x hx).2.2;omega,by rw[h.h0];decide,by rw[h.h1];decide⟩
theorem pg.len {u:Nat} {now:List (B×B)} {s:J.St} (h:pg u now s) {k l:B} (hl:J.look s.now k=some l):l.length≤8192:=by
 have hf:=h.inv.fit;revert hl;generalize s.now=m at hf;intro hl
 induction m with
 |nil=>cases hl
 |cons p t ih=>
  unfold J.look at hl;split at hl
  ·injection hl with hl;subst hl;exact(hf p ae).2.2
  ·exact ih (fun q hq=>hf q (af _ hq)) hl
theorem GW {m:List (B×B)} (hf:J.oT m):(J.encs (J.values m)).length≤8499*m.length:=by
 induction m with
 |nil=>exact Nat.zero_le _
 |cons p t ih=>
  have h1:=ih (fun q hq=>hf q (af _ hq));obtain⟨_,h2,h3⟩:=hf p ae;rw[J.kF,J.dY];simp only[J.cn.len,List.length_cons,Bool.false_eq_true,if_false];omega
structure Tx (u:Nat) (s s1:J.St) (now:List (B×B)):Prop where
 opn:s1.opn=true
 sp:s1.spoilt=false
 cs:tW s1 s1.was
 cm:s1.commits+1<4294967296
 ar:s1.area≤1
 fit:(s1.disk.area s1.area).length+(J.record 0 (s1.commits+1) s1.changes).length≤4194304
 com:J.dh s1=(J.aI s1,(s1.commits:Int)+1,0)
 sto:pg (u+1) now (J.aI s1)
 wr:(J.aI s1).writes.length=s.writes.length+1
 hist:∀b states at_,J.mQ True s b states at_→J.mQ True (J.aI s1) b (states++[now]) (at_++[s.writes.length+1])
theorem Mi {u:Nat} {old now:List (B×B)} {s:J.St} (h:pg u old s) (hu:u≤340) (chs:List J.cn) (hi:J.Inv True (opened s chs now)) (hh:∀b states at_,J.mQ True s b states at_→J.mQ True (opened s chs now) b states at_) (hl:7≤(J.encs chs).length∧(J.encs chs).length≤11900) (hm:now.length≤8*(u+1)+2):Tx u s (opened s chs now) now:=by
 have ha0:=h.a0;have rj:=h.log;have Br:(J.record 0 (s.commits+1) chs).length=13+(J.encs chs).length:=J.dG _ _ _;have Sm:s.disk.area s.area=s.disk.a0:=by rw[h.ar];rfl
 have aT:(s.disk.area s.area).length+(J.record 0 (s.commits+1) chs).length≤4194304:=by rw[Sm,Br];omega
 have ZC:=h.cu;obtain⟨k1,k2,k3⟩:=J.oZ (b:=0) (states:=[]) (at_:=[]) hi trivial rfl (show(s.disk.area s.area).length+(J.record 0 (s.commits+1) chs).length≤8388608 by omega) (show s.commits+1<4294967296 by omega) (show(J.encs chs).length<4294967296 by omega);refine⟨rfl,rfl,⟨?_, ?_, ?_⟩, ?_, ?_,aT, ?_,⟨rfl,h.ar,rfl,h.base,k1, ?_, ?_, ?_, ?_, ?_, ?_, ?_, ?_,hm⟩, ?_, ?_⟩
 ·show(J.encs (J.values s.now)).length≤_;have:=GW h.inv.fit;have h2:=h.many;omega
 ·show s.commits<_;omega
 ·intro p hp;have:=(h.inv.fit p hp).2.1;unfold maxLen;omega
 ·show s.commits+1<_;omega
 ·show s.area≤1;rw[h.ar];omega
 ·rw[pA (s:=opened s chs now) rfl rfl rfl rfl aT];unfold J.kY;have e1:J.fits (opened s chs now) (J.record 0 ((opened s chs now).commits+1) (opened s chs now).changes)=true:=decide_eq_true aT;have e2:decide ((J.record 0 ((opened s chs now).commits+1) (opened s chs now).changes).length≤16777216 - (opened s chs now).logged)=true:=decide_eq_true (show(J.record 0 (s.commits+1) chs).length≤16777216 - s.logged by omega);rw[e1,e2];rfl
 ·intro x hx;have hx:x∈s.writes++[(⟨0,s.area,J.record 0 (s.commits+1) chs⟩:J.Wr)]:=hx;rcases List.mem_append.1 hx with hx|hx
  ·exact h.wr x hx
  ·simp only[List.mem_singleton]at hx;subst hx;exact⟨rfl,h.ar,by show 20≤(J.record 0 (s.commits+1) chs).length;omega⟩
 ·show(J.done s.disk ⟨0,s.area,_⟩ _).h0=[];unfold J.done J.iC.bQ;rw[if_pos rfl,h.ar];exact h.h0
 ·show(J.done s.disk ⟨0,s.area,_⟩ _).h1=[];unfold J.done J.iC.bQ;rw[if_pos rfl,h.ar];exact h.h1
 ·show s.logged+(J.record 0 (s.commits+1) chs).length=((s.writes++[(⟨0,s.area,J.record 0 (s.commits+1) chs⟩:J.Wr)]).map fun w:J.Wr=>w.bs.length).sum;rw[h.sum];simp
 ·show s.logged+(J.record 0 (s.commits+1) chs).length≤_;omega
 ·show(J.done s.disk ⟨0,s.area,J.record 0 (s.commits+1) chs⟩ (J.record 0 (s.commits+1) chs).length).a0.length≤_;unfold J.done J.iC.bQ;rw[if_pos rfl,h.ar];show(s.disk.a0++(J.record 0 (s.commits+1) chs).take _).length≤_;rw[List.length_append,List.length_take];omega
 ·show s.commits+1=(s.writes++[_]).length;rw[h.cm];simp
 ·show s.commits+1≤_;omega
 ·show(s.writes++[_]).length=_;simp
 ·intro b states at_ Kg;obtain⟨_,_,k3⟩:=J.oZ (b:=b) (states:=states) (at_:=at_) hi trivial rfl (show(s.disk.area s.area).length+(J.record 0 (s.commits+1) chs).length≤8388608 by omega) (show s.commits+1<4294967296 by omega) (show(J.encs chs).length<4294967296 by omega);exact k3 (hh _ _ _ Kg)
section
variable {u : Nat} {s : J.St} {old : List (B × B)}
theorem nb (h:pg u old s):J.Inv True (opened s [] s.now):=(J.vH h.inv h.opn).1
theorem qo {chs:List J.cn} {now:List (B×B)} (h:J.Inv True (opened s chs now)) (c:J.cn) (hc:c.Fit) (hg:c.gone=true→J.look now c.key≠none):J.Inv True (opened s (chs++[c]) (if c.gone then J.del now c.key else J.ins now c.key c.val)):=by
 have:=J.Dz h rfl c hc hg;unfold J.apply at this;have e:13+(J.encs (chs++[c])).length=13+(J.encs chs).length+c.len:=by
  rw[J.kE,J.dY];simp[J.encs];omega
 have e2:opened s (chs++[c]) (if c.gone then J.del now c.key else J.ins now c.key c.val)={(opened s chs now)with changes:=chs++[c],size:=13+(J.encs chs).length+c.len,now:=(if c.gone then J.del now c.key else J.ins now c.key c.val)}:=by
  unfold opened;rw[e]
 rw[e2];exact this
theorem rS (h:pg u old s) (chs:List J.cn) (now:List (B×B)) {b:Nat} {states:List (List (B×B))} {at_:List Nat} (hh:J.mQ True s b states at_):J.mQ True (opened s chs now) b states at_:=
 hh.same rfl rfl rfl (by unfold J.St.com opened;rw[h.opn];rfl)
def iT (ks:List B):List J.cn:=ks.map fun k=>⟨k,[],true⟩
theorem vV (ks:List B) (k:B):iT (ks++[k])=iT ks++[⟨k,[],true⟩]:=by simp[iT]
theorem qp (ks:List B) (n:Nat) (h:∀k∈ks,k.length≤n):(J.encs (iT ks)).length≤(3+n)*ks.length:=by
 induction ks with
 |nil=>exact Nat.zero_le _
 |cons k t ih=>
  have h1:=ih (fun x hx=>h x (af _ hx));have h2:=h k ae;show(J.encs (⟨k,[],true⟩::iT t)).length≤_;rw[J.dY,List.length_cons,Nat.mul_succ];simp only[J.cn.len,if_true];omega
theorem y8 {p:B×B} {t:List (B×B)} (h:J.qR (p::t)):J.del (p::t) p.1=t:=by
 unfold J.del;rw[List.filter_cons_of_neg (by simp),List.filter_eq_self.2];intro x hx;have:=(List.pairwise_cons.1 h).1 x hx;simp only[Bool.not_eq_true',beq_eq_false_iff_ne,ne_eq];intro e;rw[e]at this;exact List.lt_irrefl _ this
theorem D8 (p:B×B) (t:List (B×B)):J.look (p::t) p.1=some p.2:=by
 show(if p.1=p.1 then some p.2 else _)=_;rw[if_pos rfl]
theorem vW (h:pg u old s) (ks:List B) (m:List (B×B)) (p:B×B) (hi:J.Inv True (opened s (iT ks) (p::m))) (hl:(J.encs (iT ks)).length+400≤4000000):
  J.delete (opened s (iT ks) (p::m)) p.1=(opened s (iT (ks++[p.1])) m,0)∧J.Inv True (opened s (iT (ks++[p.1])) m):=by
 have hf:=hi.fit p ae;have ha:J.qR (p::m):=hi.asc;have hlk:J.look (p::m) p.1≠none:=by rw[D8];intro e;cases e
 constructor
 ·unfold J.delete;rw[if_neg (by show¬true=false;decide),if_neg (show¬J.look (opened s (iT ks) (p::m)).now p.1=none from hlk),mZ]
  ·rw[vV];show(opened s _ (J.del (p::m) p.1),(0:Int))=_;rw[y8 ha]
  ·have:=hf.2.1;simp only[J.cn.len,if_true];omega
 ·have:=qo hi ⟨p.1,[],true⟩ ⟨hf.1,hf.2.1,Nat.zero_le _,fun _=>rfl⟩ (fun _=>hlk);rw[vV];have e:(if(⟨p.1,[],true⟩:J.cn).gone then J.del (p::m) (⟨p.1,[],true⟩:J.cn).key else J.ins (p::m) (⟨p.1,[],true⟩:J.cn).key (⟨p.1,[],true⟩:J.cn).val)=m:=y8 ha;rw[e]at this;exact this
theorem vX (h:pg u old s) (hu:u≤340) (ks:List B) (k v:B) (hi:J.Inv True (opened s (iT ks) [])) (cQ:k≠[]) (hk:k.length≤300) (hv:v.length≤8192) (hl:(J.encs (iT ks)).length+7+k.length+v.length≤11900):
  J.add (opened s (iT ks) []) ⟨k,v,false⟩=(opened s (iT ks++[⟨k,v,false⟩]) [(k,v)],0)∧Tx u s (opened s (iT ks++[⟨k,v,false⟩]) [(k,v)]) [(k,v)]:=by
 constructor
 ·rw[mZ]
  ·rfl
  ·simp[J.cn.len];omega
 ·refine Mi h hu _ (qo hi ⟨k,v,false⟩ ⟨cQ,hk,hv,fun e=>by cases e⟩ (fun e=>by cases e)) (fun b st a hh=>rS h _ _ hh) ?_ (by simp);rw[J.kE,J.dY];simp[J.encs,J.cn.len];simp[J.encs]at hl;omega
end
end X
end Go.Proofs.YtipljcmmokaokaaGreat
namespace Go.Proofs.YtipljcmmokaokaaGreat
open Go.RowKit Go.Lib Go.Maps Go.WideMaps Go.Sort
namespace X
def sx (ks:List Ky) (c:Nat) (b:B) (old:Option Row) (i:Nat):Nat:=match old with
 |some o=>if val ks i o.b=val ks i b then o.t i else c+1
 |none=>c+1
def nd (ks:List Ky) (c:Nat) (b:B) (old:Option Row):List Nat:=(List.range ks.length).map fun i=>if i=0 then 0 else sx ks c b old i
theorem GX (m:M) (b:B) (old:Option Row):m.times b old=nd m.ks m.time b old:=by
 unfold M.times nd sx;cases old<;>rfl
theorem oK (ks:List Ky) (c:Nat) (b:B) (old:Option Row) {i:Nat} (hi:i<ks.length):Row.t ⟨b,nd ks c b old⟩ i=if i=0 then 0 else sx ks c b old i:=by
 unfold Row.t nd;rw[List.getD_eq_getElem?_getD,List.getElem?_map,List.getElem?_range hi];rfl
def ki (ks:List Ky) (c:Nat) (rows:List Row) (b:B) (old:Option Row):List Row:=(rows.filter fun r=>decide (val ks 0 r.b≠val ks 0 b))++[⟨b,nd ks c b old⟩]
theorem ug (m:M) (b:B) (old:Option Row):m.put b old={m with rows:=ki m.ks m.time m.rows b old,time:=m.time+1}:=by
 unfold M.put ki;rw[GX]
def lz (ks:List Ky) (rows:List Row) (p:B):List Row:=rows.filter fun r=>decide (val ks 0 r.b≠p)
theorem lg {ks:List Ky} {rows:List Row} {p:B} {r:Row}:r∈lz ks rows p↔r∈rows∧val ks 0 r.b≠p:=by
 unfold lz;rw[List.mem_filter];simp
theorem lA {ks:List Ky} {c:Nat} {rows:List Row} {b:B} {old:Option Row} {r:Row}:r∈ki ks c rows b old↔(r∈rows∧val ks 0 r.b≠val ks 0 b)∨r=⟨b,nd ks c b old⟩:=by
 unfold ki;rw[List.mem_append,List.mem_filter,List.mem_singleton];simp
section
variable {ks : List Ky} {size time : Nat} {rows : List Row} {nm a : B} {c : Nat} {now : List (B × B)} {b : B} {old : Option Row}
theorem Nv:∀p v,Pp ks (ki ks c rows b old) p v↔(p=val ks 0 b∧v=b)∨(p≠val ks 0 b∧Pp ks rows p v):=fun p v=>by
 constructor
 ·rintro⟨r,hr,h1,h2⟩;rcases lA.1 hr with⟨h3,h4⟩|rfl
  ·exact .inr ⟨by rw[←h1];exact h4,r,h3,h1,h2⟩
  ·exact .inl ⟨h1.symm,h2.symm⟩
 ·rintro(⟨h1,h2⟩|⟨h0,r,h1,h2,h3⟩)
  ·exact⟨_,lA.2 (.inr rfl),h1.symm,h2.symm⟩
  ·exact⟨r,lA.2 (.inl ⟨h1,by rw[h2];exact h0⟩),h2,h3⟩
theorem GY {i:Nat} (h1:1≤i) (hi:i<ks.length) (p:B) (t:Nat) (q:B):Ee ks (ki ks c rows b old) i p t q↔(∃r∈rows,val ks 0 r.b≠val ks 0 b∧val ks i r.b=p∧r.t i=t∧val ks 0 r.b=q)∨(val ks i b=p∧sx ks c b old i=t∧val ks 0 b=q):=by
 have ht:=oK ks c b old hi;rw[if_neg (by omega)]at ht;constructor
 ·rintro⟨r,hr,e1,e2,e3,_⟩;rcases lA.1 hr with⟨h3,h4⟩|rfl
  ·exact .inl ⟨r,h3,h4,e1,e2,e3⟩
  ·exact .inr ⟨e1,by rw[←ht];exact e2,e3⟩
 ·rintro(⟨r,h3,h4,e1,e2,e3⟩|⟨e1,e2,e3⟩)
  ·exact⟨r,lA.2 (.inl ⟨h3,h4⟩),e1,e2,e3,hi⟩
  ·exact⟨_,lA.2 (.inr rfl),e1,by rw[ht];exact e2,e3,hi⟩
theorem xb {p:B} (hf:rows.find? (fun r=>decide (val ks 0 r.b=p))=none) {r:Row} (hr:r∈rows):val ks 0 r.b≠p:=fun e=>by
 have:=List.find?_eq_none.1 hf r hr;rw[e]at this;simp at this
theorem a8 {p:B} {o:Row} (hf:rows.find? (fun r=>decide (val ks 0 r.b=p))=some o):o∈rows∧val ks 0 o.b=p:=
 ⟨(cR hf).1,of_decide_eq_true (cR hf).2⟩
theorem Ki (hr:aS ks size time rows) (hf:rows.find? (fun r=>decide (val ks 0 r.b=val ks 0 b))=old) {i:Nat} (h1:1≤i) (hi:i<ks.length) (qq:keeps ks i b old=true) (p:B) (t:Nat) (q:B):
  Ee ks (ki ks c rows b old) i p t q↔Ee ks rows i p t q:=by
 rw[GY h1 hi];cases old with
 |none=>unfold keeps at qq;cases qq
 |some o=>
  obtain⟨ho,hp⟩:=a8 hf;have hv:val ks i o.b=val ks i b:=of_decide_eq_true qq;have O0:sx ks c b (some o) i=o.t i:=(by unfold sx;dsimp only;rw[if_pos hv]);rw[O0];constructor
  ·rintro(⟨r,h3,h4,e1,e2,e3⟩|⟨e1,e2,e3⟩)
   ·exact⟨r,h3,e1,e2,e3,hi⟩
   ·exact⟨o,ho,hv.trans e1,e2,hp.trans e3,hi⟩
  ·rintro⟨r,h3,e1,e2,e3,_⟩;by_cases e:val ks 0 r.b=val ks 0 b
   ·have:r=o:=qj hr.prim h3 ho (e.trans hp.symm);subst this;exact .inr ⟨hv.symm.trans e1,e2,e.symm.trans e3⟩
   ·exact .inl ⟨r,h3,e,e1,e2,e3⟩
theorem GZ {l:List Row} {i:Nat} (h:l.Pairwise fun x y=>x.t i≠y.t i) {r s:Row} (hr:r∈l) (hs:s∈l) (e:r.t i=s.t i):r=s:=by
 induction l with
 |nil=>cases hr
 |cons x t ih=>
  obtain⟨h1,h2⟩:=List.pairwise_cons.1 h;rcases ak hr with rfl|mi<;>rcases ak hs with rfl|hs'
  ·rfl
  ·exact absurd e (h1 s hs')
  ·exact absurd e.symm (h1 r mi)
  ·exact ih h2 mi hs'
theorem G0 (hr:aS ks size c rows) (hf:rows.find? (fun r=>decide (val ks 0 r.b=val ks 0 b))=old) {i:Nat} (h1:1≤i) (hi:i<ks.length) (qq:keeps ks i b old=false) (p:B) (t:Nat) (q:B):
  Ee ks (ki ks c rows b old) i p t q↔(p=val ks i b∧t=c+1∧q=val ks 0 b)∨(¬(p=val ks i b∧t=c+1)∧Ee ks rows i p t q∧∀o,old=some o→¬(p=val ks i o.b∧t=o.t i)):=by
 rw[GY h1 hi];have O0:sx ks c b old i=c+1:=by
  unfold sx;cases old with
  |none=>rfl
  |some o=>
   have:val ks i o.b≠val ks i b:=of_decide_eq_false qq;dsimp only;rw[if_neg this]
 rw[O0];constructor
 ·rintro(⟨r,h3,h4,e1,e2,e3⟩|⟨e1,e2,e3⟩)
  ·have:=hr.tp r h3 i h1 hi;refine .inr ⟨fun hh=>by omega,⟨r,h3,e1,e2,e3,hi⟩,fun o ho hh=> ?_⟩;subst ho;obtain⟨ho,hp⟩:=a8 hf;have:r=o:=GZ (hr.tm i h1 hi) h3 ho (e2.trans hh.2);subst this;exact h4 hp
  ·exact .inl ⟨e1.symm,e2.symm,e3.symm⟩
 ·rintro(⟨e1,e2,e3⟩|⟨_,⟨r,h3,e1,e2,e3,_⟩,h5⟩)
  ·exact .inr ⟨e1.symm,e2.symm,e3.symm⟩
  ·refine .inl ⟨r,h3,fun e=> ?_,e1,e2,e3⟩;cases old with
   |none=>exact xb hf h3 e
   |some o=>
    obtain⟨ho,hp⟩:=a8 hf;have:r=o:=qj hr.prim h3 ho (e.trans hp.symm);subst this;exact h5 r rfl ⟨e1.symm,e2.symm⟩
def G1 (nm a:B) (ks:List Ky) (c:Nat) (rows:List Row) (b:B) (old:Option Row) (j:Nat) (now:List (B×B)):Prop:=
 iM nm a ks.length (c+1) (lens ks) (Pp ks (ki ks c rows b old)) (fun i p t q=>if i≤j then Ee ks (ki ks c rows b old) i p t q else Ee ks rows i p t q) now
theorem BB (hr:aS ks size time rows) {i:Nat} {p:B} {t:Nat} {q:B} (h:Ee ks rows i p t q):p.length=lens ks i:=by
 obtain⟨r,h1,rfl,_,_,hi⟩:=h;exact aP (hr.fit r h1) hi
theorem pC (hr:aS ks size time rows) (hb:bg ks size b=true) {i:Nat} {p:B} {t:Nat} {q:B} (h:Ee ks (ki ks c rows b old) i p t q):p.length=lens ks i:=by
 obtain⟨r,h1,rfl,_,_,hi⟩:=h;rcases lA.1 h1 with⟨h3,_⟩|rfl
 ·exact aP (hr.fit r h3) hi
 ·exact aP hb hi
theorem D9 (h:ln nm a ks rows c now) (hk:fQ ks size) (hr:aS ks size c rows) (hb:bg ks size b=true):
  G1 nm a ks c rows b old 0 (J.ins (J.ins now (cK nm) (R.bF (c+1))) (bP nm 0 (val ks 0 b) 0) b):=by
 have h1:=iM.time h (c':=c+1) (by omega);have h2:=h1.record (by have:=hk.one;omega) (p0:=val ks 0 b) (v0:=b) (aP hb (by have:=hk.one;omega));refine h2.same Nv (fun i p t q k1 k2=> ?_) (fun i p t q hh=> ?_)
 ·rw[if_neg (by omega)]
 ·split at hh
  ·exact pC hr hb hh
  ·exact BB hr hh
theorem xc (hr:aS ks size time rows) (hb:bg ks size b=true) {j:Nat}:∀i p t q,(if i≤j then Ee ks (ki ks c rows b old) i p t q else Ee ks rows i p t q)→p.length=lens ks i:=fun i p t q hh=>by
 split at hh
 ·exact pC hr hb hh
 ·exact BB hr hh
theorem G2 (hr:aS ks size c rows) (hb:bg ks size b=true) (hf:rows.find? (fun r=>decide (val ks 0 r.b=val ks 0 b))=old) {j:Nat} (hj:j+1<ks.length) (h:G1 nm a ks c rows b old j now) (qq:keeps ks (j+1) b old=true):G1 nm a ks c rows b old (j+1) now:=by
 refine iM.same h (fun _ _=>Iff.rfl) (fun i p t q k1 k2=> ?_) (xc hr hb);by_cases e:i=j+1
 ·subst e;rw[if_pos (Nat.le_refl _),if_neg (by omega)];exact Ki hr hf k1 k2 qq p t q
 ·by_cases e2:i≤j
  ·rw[if_pos e2,if_pos (by omega)]
  ·rw[if_neg e2,if_neg (by omega)]
theorem G3 (hk:fQ ks size) (hr:aS ks size c rows) (hc:c+1<4294967296) (hb:bg ks size b=true) (hf:rows.find? (fun r=>decide (val ks 0 r.b=val ks 0 b))=none) {j:Nat} (hj:j+1<ks.length) (h:G1 nm a ks c rows b none j now):
  G1 nm a ks c rows b none (j+1) (J.ins now (bP nm (j+1) (val ks (j+1) b) (c+1)) (val ks 0 b)):=by
 have h2:=iM.entry h (by have:=hk.one;omega) (i0:=j+1) ⟨by omega,hj⟩ (p0:=val ks (j+1) b) (q0:=val ks 0 b) (t0:=c+1) hc (aP hb hj);refine h2.same (fun _ _=>Iff.rfl) (fun i p t q k1 k2=> ?_) (xc hr hb);by_cases e:i=j+1
 ·subst e;rw[if_pos (Nat.le_refl _),if_neg (by omega),G0 hr hf k1 k2 rfl];constructor
  ·rintro(⟨e1,e2,e3⟩|⟨e1,e2,_⟩)
   ·exact .inl ⟨rfl,e1,e2,e3⟩
   ·exact .inr ⟨fun hh=>e1 ⟨hh.2.1,hh.2.2⟩,e2⟩
  ·rintro(⟨_,e1,e2,e3⟩|⟨e1,e2⟩)
   ·exact .inl ⟨e1,e2,e3⟩
   ·exact .inr ⟨fun hh=>e1 ⟨rfl,hh.1,hh.2⟩,e2,fun o ho=>by cases ho⟩
 ·by_cases e2:i≤j
  ·rw[if_pos e2,if_pos (by omega)];exact⟨fun hh=> .inr ⟨fun x=>e x.1,hh⟩,fun hh=>hh.elim (fun x=>absurd x.1 e) (fun x=>x.2)⟩
  ·rw[if_neg e2,if_neg (by omega)];exact⟨fun hh=> .inr ⟨fun x=>e x.1,hh⟩,fun hh=>hh.elim (fun x=>absurd x.1 e) (fun x=>x.2)⟩
theorem G4 (hk:fQ ks size) (hr:aS ks size c rows) (hc:c+1<4294967296) (hb:bg ks size b=true) {o:Row} (hf:rows.find? (fun r=>decide (val ks 0 r.b=val ks 0 b))=some o) {j:Nat} (hj:j+1<ks.length) (h:G1 nm a ks c rows b (some o) j now) (qq:keeps ks (j+1) b (some o)=false):
  G1 nm a ks c rows b (some o) (j+1) (J.ins (J.del now (aJ nm ks (j+1) o)) (bP nm (j+1) (val ks (j+1) b) (c+1)) (val ks 0 b)):=by
 obtain⟨ho,hp⟩:=a8 hf;have h1:=iM.CQ h (by have:=hk.one;omega) (i0:=j+1) ⟨by omega,hj⟩ (val ks (j+1) o.b) (t0:=o.t (j+1)) (hr.t32 (by omega) ho hj);have h2:=h1.entry (by have:=hk.one;omega) (i0:=j+1) ⟨by omega,hj⟩ (p0:=val ks (j+1) b) (q0:=val ks 0 b) (t0:=c+1) hc (aP hb hj);refine h2.same (fun _ _=>Iff.rfl) (fun i p t q k1 k2=> ?_) (xc hr hb);by_cases e:i=j+1
 ·subst e;rw[if_pos (Nat.le_refl _),if_neg (by omega),G0 hr hf k1 k2 qq];constructor
  ·rintro(⟨e1,e2,e3⟩|⟨e1,e2,e3⟩)
   ·exact .inl ⟨rfl,e1,e2,e3⟩
   ·exact .inr ⟨fun hh=>e1 ⟨hh.2.1,hh.2.2⟩,fun hh=>e3 o rfl ⟨hh.2.1,hh.2.2⟩,e2⟩
  ·rintro(⟨_,e1,e2,e3⟩|⟨e1,e3,e2⟩)
   ·exact .inl ⟨e1,e2,e3⟩
   ·exact .inr ⟨fun hh=>e1 ⟨rfl,hh.1,hh.2⟩,e2,fun o' O1 hh=>by injection O1 with O1;subst O1;exact e3 ⟨rfl,hh.1,hh.2⟩⟩
 ·have hx:∀x:Prop,x↔(i=j+1∧p=val ks (j+1) b∧t=c+1∧q=val ks 0 b)∨¬(i=j+1∧p=val ks (j+1) b∧t=c+1)∧¬(i=j+1∧p=val ks (j+1) o.b∧t=o.t (j+1))∧x:=fun x=>
   ⟨fun hh=> .inr ⟨fun x=>e x.1,fun x=>e x.1,hh⟩,fun hh=>hh.elim (fun x=>absurd x.1 e) (fun x=>x.2.2)⟩
  by_cases e2:i≤j
  ·rw[if_pos e2,if_pos (by omega)];exact hx _
  ·rw[if_neg e2,if_neg (by omega)];exact hx _
theorem Kj {j:Nat} (hj:ks.length≤j+1) (hr:aS ks size c rows) (hb:bg ks size b=true) (h:G1 nm a ks c rows b old j now):ln nm a ks (ki ks c rows b old) (c+1) now:=by
 refine iM.same h (fun _ _=>Iff.rfl) (fun i p t q k1 k2=> ?_) (fun i p t q hh=>pC hr hb hh);rw[if_pos (by omega)]
theorem xd {j:Nat} (h:G1 nm a ks c rows b old j now) (hr:aS ks size c rows) (hc:c<4294967296) {i:Nat} (nJ:j<i) (hi:i<ks.length) {r:Row} (hm:r∈rows):J.look now (aJ nm ks i r)=some (val ks 0 r.b):=by
 have:=(h.alt i (val ks i r.b) (r.t i) (val ks 0 r.b) (by omega) hi (hr.t32 hc hm hi)).2;rw[if_neg (by omega)]at this;exact this ⟨r,hm,rfl,rfl,rfl,hi⟩
theorem G5 {j:Nat} (h:G1 nm a ks c rows b old j now) (hk:ks.length≤256) (hr:aS ks size c rows) (hc:c<4294967296) {i:Nat} (nJ:j<i) (hi:i<ks.length) (v:B) (hv:v.length=lens ks i):
  keysOf now ⟨(pre nm i++v).toArray⟩=((bS ks i rows).filter fun r=>decide (val ks i r.b=v)).map (aJ nm ks i):=by
 unfold keysOf;rw[qi];refine mU _ _ (List.Pairwise.filter _ (List.pairwise_map.2 h.asc)) ?_ (fun k=> ?_)
 ·rw[List.pairwise_map];refine List.Pairwise.imp_of_mem (fun {x y} hx hy DB=> ?_) (List.Pairwise.filter _ (mX ks i rows (hr.yh hi)));exact(wN hr hc hi ((bm ks i x rows).1 (List.mem_filter.1 hx).1) ((bm ks i y rows).1 (List.mem_filter.1 hy).1)).2 DB
 ·rw[List.mem_filter];constructor
  ·rintro⟨jB,hk2⟩;refine List.mem_map.2 ?_;obtain⟨⟨k',x⟩,hm,rfl⟩:=List.mem_map.1 jB;have hk2:Lib.hasPrefix k' (pre nm i++v)=true:=hk2;have hlk:=J.ic now k' x h.asc hm;rcases h.oth k' (by rw[hlk];intro e;cases e)with rfl|rfl|⟨p,rfl⟩|⟨j',p,t,j1,j2,Fo,rfl⟩
   ·rw[py]at hk2;cases hk2
   ·rw[tB]at hk2;cases hk2
   ·rw[iE (by omega) (by decide) (by omega)]at hk2;cases hk2
   ·by_cases qY:i=j'
    ·subst qY;have h9:=(h.alt i p t x j1 j2 Fo).1 hlk;rw[if_neg (by omega)]at h9;obtain⟨r,jZ,e1,e2,e3,_⟩:=h9;have hl:p.length=lens ks i:=(by rw[←e1,aP (hr.fit r jZ) hi]);rw[dH (by omega),hv,←hl,List.take_length]at hk2;refine⟨r,List.mem_filter.2 ⟨(bm ks i r rows).2 jZ,by rw[e1];exact hk2⟩, ?_⟩;show bP nm i (val ks i r.b) (r.t i)=_;rw[e1,e2]
    ·rw[iE (by omega) (by omega) qY]at hk2;cases hk2
  ·intro JK;obtain⟨r,MW,rfl⟩:=List.mem_map.1 JK;obtain⟨jZ,hd⟩:=List.mem_filter.1 MW;have jZ:=(bm ks i r rows).1 jZ;have hl:(val ks i r.b).length=lens ks i:=aP (hr.fit r jZ) hi;refine⟨List.mem_map.2 ⟨_,J.gz now _ _ (xd h hr hc nJ hi jZ),rfl⟩, ?_⟩;show Lib.hasPrefix (bP nm i _ _) _=true;rw[dH (by omega),hv,←hl,List.take_length];exact hd
end
end X
namespace X
section
variable {ks : List Ky} {size time : Nat} {rows : List Row} {nm a : B} {c : Nat} {now : List (B × B)} {b : B} {old : Option Row}
theorem G6 (ks:List Ky) (size time:Nat):aS ks size time []:=
 ⟨fun _ h=>(by cases h),fun _ h=>(by cases h),fun _ h=>(by cases h),fun _ h=>(by cases h),List.Pairwise.nil,fun _ _ _=>List.Pairwise.nil,fun _ _ _ _=>List.Pairwise.nil⟩
theorem y9 (h:aS ks size time rows) {l:List Row} (hl:l.Sublist rows):aS ks size time l:=
 ⟨fun r hr=>h.fit r (hl.subset hr),fun r hr=>h.tl r (hl.subset hr),fun r hr=>h.t0 r (hl.subset hr),fun r hr=>h.tp r (hl.subset hr),h.prim.sublist hl,fun i h1 h2=>(h.tm i h1 h2).sublist hl,fun i h1 h2 h3=>(h.nodup i h1 h2 h3).sublist hl⟩
theorem Ea (h:aS ks size time rows) {t:Nat} (ht:time≤t):aS ks size t rows:=
 ⟨h.fit,h.tl,h.t0,fun r hr i h1 h2=>⟨(h.tp r hr i h1 h2).1,au (h.tp r hr i h1 h2).2 ht⟩,h.prim,h.tm,h.nodup⟩
theorem vY (h:aS ks size time rows) (p:B):aS ks size time (lz ks rows p):=y9 h List.filter_sublist
def PZ (ks:List Ky) (rows:List Row) (b:B) (old:Option Row):Prop:=∀i,1≤i→i<ks.length→(aF ks i).dup=false→keeps ks i b old=false→∀r∈rows,val ks i r.b≠val ks i b
theorem uh (h:aS ks size c rows) (hb:bg ks size b=true) (hf:rows.find? (fun r=>decide (val ks 0 r.b=val ks 0 b))=old) (nX:PZ ks rows b old) (h1:1≤ks.length):aS ks size (c+1) (ki ks c rows b old):=by
 have hg:aS ks size (c+1) (rows.filter fun r=>decide (val ks 0 r.b≠val ks 0 b)):=Ea (y9 h List.filter_sublist) (Nat.le_succ c);have hne:∀r∈rows.filter (fun r=>decide (val ks 0 r.b≠val ks 0 b)),r∈rows∧val ks 0 r.b≠val ks 0 b:=fun r hr=>by
  have:=List.mem_filter.1 hr
  simpa using this
 have O0:∀i,1≤i→i<ks.length→1≤sx ks c b old i∧sx ks c b old i≤c+1:=fun i k1 k2=>by
  unfold sx;cases old with
  |none=>exact⟨by show 1≤c+1;omega,aj _⟩
  |some o=>
   obtain⟨ho,_⟩:=a8 hf;have:=h.tp o ho i k1 k2;dsimp only;split<;>omega
 unfold ki;refine⟨fun r hr=> ?_,fun r hr=> ?_,fun r hr=> ?_,fun r hr i k1 k2=> ?_, ?_,fun i k1 k2=> ?_,fun i k1 k2 k3=> ?_⟩
 ·rcases List.mem_append.1 hr with hr|hr
  ·exact hg.fit r hr
  ·rw[List.mem_singleton.1 hr];exact hb
 ·rcases List.mem_append.1 hr with hr|hr
  ·exact hg.tl r hr
  ·rw[List.mem_singleton.1 hr];simp[nd]
 ·rcases List.mem_append.1 hr with hr|hr
  ·exact hg.t0 r hr
  ·rw[List.mem_singleton.1 hr,oK ks c b old (by omega),if_pos rfl]
 ·rcases List.mem_append.1 hr with hr|hr
  ·exact hg.tp r hr i k1 k2
  ·rw[List.mem_singleton.1 hr,oK ks c b old k2,if_neg (by omega)];exact O0 i k1 k2
 ·refine List.pairwise_append.2 ⟨hg.prim,List.pairwise_singleton _ _,fun x hx y hy=> ?_⟩;rw[List.mem_singleton.1 hy];exact(hne x hx).2
 ·refine List.pairwise_append.2 ⟨hg.tm i k1 k2,List.pairwise_singleton _ _,fun x hx y hy=> ?_⟩;rw[List.mem_singleton.1 hy,oK ks c b old k2,if_neg (by omega)];obtain⟨hx1,hx2⟩:=hne x hx;have VX:=h.tp x hx1 i k1 k2;unfold sx;cases old with
  |none=>dsimp only;omega
  |some o=>
   obtain⟨ho,hp⟩:=a8 hf;dsimp only;split
   ·intro e;have:=GZ (h.tm i k1 k2) hx1 ho e;subst this;exact hx2 hp
   ·omega
 ·refine List.pairwise_append.2 ⟨hg.nodup i k1 k2 k3,List.pairwise_singleton _ _,fun x hx y hy=> ?_⟩;rw[List.mem_singleton.1 hy];obtain⟨hx1,hx2⟩:=hne x hx;cases hk:keeps ks i b old with
  |false=>exact nX i k1 k2 k3 hk x hx1
  |true=>
   cases old with
   |none=>unfold keeps at hk;cases hk
   |some o=>
    obtain⟨ho,hp⟩:=a8 hf;have hv:val ks i o.b=val ks i b:=of_decide_eq_true hk;intro e;have:x≠o:=fun hh=>by subst hh;exact hx2 hp
    have hd:=h.nodup i k1 k2 k3;have:x=o:=by
     clear hg hne O0 nX;have e:val ks i x.b=val ks i o.b:=e.trans hv.symm;revert hx1 ho;generalize rows=l at hd;intro hx1 ho
     induction l with
     |nil=>cases hx1
     |cons z t ih=>
      obtain⟨d1,d2⟩:=List.pairwise_cons.1 hd;rcases ak hx1 with rfl|P0<;>rcases ak ho with rfl|O1
      ·rfl
      ·exact absurd e (d1 o O1)
      ·exact absurd e.symm (d1 x P0)
      ·exact ih d2 P0 O1
    contradiction
theorem pD {m:M} (h:m.dZ b old≠[50,50]):PZ m.ks m.rows b old:=fun i k1 k2 k3 hk r hr e=>by
 unfold M.dZ at h;have:(List.range' 1 (m.ks.length - 1)).any (fun i=>m.cN i b old&& !(aF m.ks i).dup)=true:=by
  rw[List.any_eq_true];refine⟨i,by rw[List.mem_range'_1];omega, ?_⟩;unfold M.cN;rw[hk,k3];have:(m.rows.any fun r=>decide (val m.ks i r.b=val m.ks i b))=true:=List.any_eq_true.2 ⟨r,hr,decide_eq_true e⟩;rw[this];rfl
 rw[if_pos this]at h;exact h rfl
theorem za (ks:List Ky) (c:Nat) (rows:List Row) (b:B) (old:Option Row):(ki ks c rows b old).length≤rows.length+1:=by
 unfold ki;rw[List.length_append];have:=List.length_filter_le (fun r:Row=>decide (val ks 0 r.b≠val ks 0 b)) rows;simp only[List.length_singleton];omega
theorem vZ (ks:List Ky) (rows:List Row) (p:B):(lz ks rows p).length≤rows.length:=List.length_filter_le _ _
end
section
variable {u : Nat} {m : M}
theorem gB (h:jA u m) {wr:B} {l:List Nat} (hs:¬cB wr l m.mode≠good):m.there=true:=by
 cases ht:m.there with
 |true=>rfl
 |false=>
  exfalso;apply hs;have h0:=(h.none ht).2.1;unfold cB;rw[if_pos h0];decide
theorem jA.dx (h:jA u m):jA (u+1) m.dx:=
 ⟨h.ks,h.rows,h.none,Nat.le_succ_of_le h.many,Nat.le_succ_of_le h.time,h.key,(fun e=>by cases e),Nat.le_succ_of_le h.at_,h.mode⟩
theorem jA.take (h:jA u m) {r:Row} (hr:r∈m.rows):jA (u+1) (m.take r):=by
 refine⟨h.ks,h.rows,h.none,Nat.le_succ_of_le h.many,Nat.le_succ_of_le h.time,h.key,fun _=> .inr ⟨aP (h.rows.fit r hr) h.key,fun e=> ?_⟩, ?_,h.mode⟩
 ·show r.t m.key=0;rw[show m.key=0 from e];exact h.rows.t0 r hr
 ·show r.t m.key≤u+1;by_cases e:m.key=0
  ·rw[e,h.rows.t0 r hr];exact Nat.zero_le _
  ·have:=h.rows.tp r hr m.key (by omega) h.key;have:=h.time;omega
theorem jA.keyed (h:jA u m) (hl:m.lost=true) {i:Nat} (hi:i<m.ks.length):jA u (m.keyed i):=
 ⟨h.ks,h.rows,h.none,h.many,h.time,hi,(fun e=>by rw[show(m.keyed i).lost=m.lost from rfl,hl]at e;cases e),h.at_,h.mode⟩
theorem jA.aO (h:jA u m):jA u m.aO:=⟨h.ks,h.rows,h.none,h.many,h.time,h.key,h.pos,h.at_,h.mode⟩
theorem M.at_mem {r:Row} (h:m.at=some r):r∈m.rows:=(bm _ _ _ _).1 (cR h).1
theorem M.ui {i:Nat} {v:B} {r:Row} (h:m.AE i v=some r):r∈m.rows:=(bm _ _ _ _).1 (cR h).1
theorem G7 (h:jA u m):jA (u+1) m.close.1:=by
 unfold M.close;split
 ·exact h.mono (Nat.le_succ u)
 ·exact⟨h.ks,h.rows,fun e=>⟨(h.none e).1,rfl,(h.none e).2.2⟩,Nat.le_succ_of_le h.many,Nat.le_succ_of_le h.time,h.key,h.pos,Nat.le_succ_of_le h.at_,Nat.zero_le _⟩
theorem C2 (h:jA u m):jA (u+1) m.next.1:=by
 unfold M.next;split
 ·exact h.mono (Nat.le_succ u)
 ·split
  ·rename_i hl
   exact⟨h.ks,h.rows,h.none,Nat.le_succ_of_le h.many,Nat.le_succ_of_le h.time,h.key,h.pos,Nat.le_succ_of_le h.at_,h.mode⟩
  ·split
   ·rename_i r hr
    exact h.take (M.at_mem hr)
   ·exact h.dx
theorem jA.put (h:jA u m) {b:B} {old:Option Row} (hb:bg m.ks m.size b=true) (hf:m.find (val m.ks 0 b)=old) (hc:m.dZ b old≠[50,50]) (ht:m.there=true):jA (u+1) (m.put b old):=by
 rw[ug];refine⟨h.ks,uh h.rows hb hf (pD hc) h.ks.one.1,(fun e=>by rw[show m.there=false from e]at ht;cases ht), ?_, ?_,h.key,h.pos,Nat.le_succ_of_le h.at_,h.mode⟩
 ·have:=za m.ks m.time m.rows b old;have:=h.many;show(ki m.ks m.time m.rows b old).length≤u+1;omega
 ·have:=h.time;show m.time+1≤u+1;omega
theorem eb (h:jA u m):jA (u+1) m.aO:=h.aO.mono (Nat.le_succ u)
theorem G8 (h:jA u m) (b:B):jA (u+1) (m.write b).1:=by
 unfold M.write;split
 ·exact h.mono (Nat.le_succ u)
 ·rename_i hs
  split
  ·exact eb h
  ·rename_i hb
   split
   ·exact eb h
   ·split
    ·exact eb h
    ·rename_i hc
     have hc1:m.find (val m.ks 0 b)=none:=by
      cases hh:m.find (val m.ks 0 b)with
      |none=>rfl
      |some r=>exact absurd (.inl (by rw[hh];rfl)) hc
     have ht:=gB h hs;have hp:=jA.put (m:=m.aO) h.aO (b:=b) (old:=none) (show bg m.ks m.size b=true by simpa using hb) hc1 (fun e=>hc (.inr e)) ht;exact⟨hp.ks,hp.rows,hp.none,hp.many,hp.time,hp.key,hp.pos,hp.at_,hp.mode⟩
theorem BC (h:jA u m) (b:B):jA (u+1) (m.rewrite b).1:=by
 unfold M.rewrite;split
 ·exact h.mono (Nat.le_succ u)
 ·rename_i hs
  split
  ·exact eb h
  ·rename_i hb
   split
   ·exact eb h
   ·split
    ·exact eb h
    ·split
     ·exact eb h
     ·rename_i o ho
      split
      ·exact eb h
      ·rename_i hc
       have ht:=gB h hs;exact jA.put (m:=m.aO) h.aO (b:=b) (old:=some o) (show bg m.ks m.size b=true by simpa using hb) ho hc ht
theorem jA.gone (h:jA u m) (ht:m.there=true) (p:B):jA (u+1) (m.gone p):=by
 refine⟨h.ks,vY h.rows p,(fun e=>by rw[show m.there=false from e]at ht;cases ht), ?_,Nat.le_succ_of_le h.time,h.key,h.pos,Nat.le_succ_of_le h.at_,h.mode⟩;have:=vZ m.ks m.rows p;have:=h.many;show(lz m.ks m.rows p).length≤u+1;omega
theorem Eb (h:jA u m) (b:B):jA (u+1) (m.delete b).1:=by
 unfold M.delete;split
 ·exact h.mono (Nat.le_succ u)
 ·rename_i hs
  split
  ·exact eb h
  ·split
   ·exact eb h
   ·split
    ·exact eb h
    ·have ht:=gB h hs;exact jA.gone (m:=m.aO) h.aO ht _
theorem Kk (h:jA u m) (md:Nat) (ord:Bool):jA (u+1) (m.open md ord).1:=by
 unfold M.open;split
 ·exact h.mono (Nat.le_succ u)
 ·rename_i hm
  split
  ·exact h.mono (Nat.le_succ u)
  ·split
   ·exact h.mono (Nat.le_succ u)
   ·unfold M.opened;by_cases e:md=2
    ·subst e;refine⟨h.ks, ?_,(fun x=>by cases x), ?_, ?_,h.ks.one.1,fun _=> .inl ⟨rfl,rfl,rfl⟩,Nat.zero_le _,by show 2≤4;decide⟩
     ·exact G6 _ _ _
     ·exact Nat.zero_le _
     ·exact Nat.zero_le _
    ·refine⟨h.ks, ?_,(fun x=>by cases x), ?_, ?_,h.ks.one.1,fun _=> .inl ⟨rfl,rfl,rfl⟩,Nat.zero_le _,by show md≤4;omega⟩
     ·show aS m.ks m.size (if md=2 then 0 else m.time) (if md=2 then []else m.rows);rw[if_neg e,if_neg e];exact h.rows
     ·show(if md=2 then []else m.rows).length≤_;rw[if_neg e];exact Nat.le_succ_of_le h.many
     ·show(if md=2 then 0 else m.time)≤_;rw[if_neg e];exact Nat.le_succ_of_le h.time
theorem M.Ec {i r:Nat} {v:B} {x:Row} (h:m.place i r v=some x):x∈m.rows:=by
 unfold M.place at h;split at h
 ·have:=List.mem_of_getLast? h;exact(bm _ _ _ _).1 (List.mem_filter.1 this).1
 ·exact(bm _ _ _ _).1 (cR h).1
theorem G9 (h:jA u m) (k:Int) (r:Nat) (v:B):jA (u+1) (m.start k r v).1:=by
 unfold M.start;split
 ·exact h.mono (Nat.le_succ u)
 ·split
  ·exact h.dx
  ·rename_i hk
   split
   ·exact h.dx
   ·rename_i x hx
    have C3:=M.Ec hx;have hk:k.toNat<m.ks.length:=(by omega);have ht:=jA.take (h.dx.keyed rfl hk) C3;refine⟨h.ks,h.rows,h.none,Nat.le_succ_of_le h.many,Nat.le_succ_of_le h.time,hk,fun _=> .inr ⟨aP (h.rows.fit x C3) hk,fun e=> ?_⟩, ?_,h.mode⟩
    ·show x.t k.toNat=0;rw[show k.toNat=0 from e];exact h.rows.t0 x C3
    ·show x.t k.toNat≤u+1;by_cases e:k.toNat=0
     ·rw[e,h.rows.t0 x C3];exact Nat.zero_le _
     ·have:=h.rows.tp x C3 k.toNat (by omega) hk;have:=h.time;omega
end
end X
end Go.Proofs.YtipljcmmokaokaaGreat
namespace Go.Proofs.YtipljcmmokaokaaGreat
open Go.RowKit Go.Lib Go.Maps Go.WideMaps Go.Sort
set_option maxRecDepth 100000
structure Fv where
 mode:Nat
 ord:Bool
 key:Nat
 at_:J.B
 same:Bool
 lost:Bool
 last:J.B
 read:Bool
 written:J.B
abbrev av (p:Nat) (nm:J.B) (size g n c:Nat) (f:Fv):Obj:=
 .cells #[.pointer (some ⟨p,0,none⟩), .string ⟨nm.toArray⟩, .int .i64 (size:Nat), .slice (some ⟨g,0,none⟩) n c, .int .u8 (f.mode:Nat), .bool f.ord, .int .i64 (f.key:Nat), .string ⟨f.at_.toArray⟩, .bool f.same, .bool f.lost, .string ⟨f.last.toArray⟩, .bool f.read, .string ⟨f.written.toArray⟩] 70 (0,0)
def bI (ok:Obj) (ks:List X.Ky):Prop:=(∃C fr,ok= .cells C 66 fr)∧∀(W:World) (g:Nat),W.heap[g]? =some ok→eY W g ks
section
variable {w0 : World} {p pf g c size : Nat} {nm : J.B} {ks : List X.Ky} {f : Fv} {w w' : World} {s s1 s2 : J.St} {fs : List (Nat × Obj)} {ok : Obj}
theorem eZ (h:w.heap[pf]? =some (av p nm size g ks.length c f)):
  Calls Tryz.prog 39 #[.pointer (some ⟨pf,0,none⟩)] w fun e w'=>e= .returned (.bool true)∧w=w':=by
 have hc:=fun j=>ag w pf j _ _ _ h;clear h;go_enter Tryz.func39,Tryz.ntmps39;go_wp2;go_ret;exact⟨rfl,rfl⟩
theorem Ed (h:w.heap[pf]? =some (av p nm size g ks.length c f)):yG w pf:=by
 refine⟨fun o u v hh=> ?_,fun⟨_,cur,fr,e⟩=> ?_⟩
 ·rw[cell_of_row w pf o _ _ _ h,cell_of_row w pf (o+1) _ _ _ h]at hh;obtain⟨h1,h2⟩:=hh;rcases o with _|_|_|_|_|_|_|_|_|_|_|_|_|o<;>simp at h1 h2
 ·rw[h]at e;injection e with e;injection e with e1 e2;exact absurd e2 (by decide)
theorem bc {f':Fv} (h:At w0 p ((pf,av p nm size g ks.length c f)::fs) s w) (hf:∀x∈fs,x.1≠pf) (ht:J.Two s) (hg:w.grownBy w' (some pf)) (hr:w'.heap[pf]? =some (av p nm size g ks.length c f')):At w0 p ((pf,av p nm size g ks.length c f')::fs) s w':=
 h.turn hf ht (Ed (h.get ae)) hg hr
theorem kK (h:w.heap[pf]? =some (av p nm size g ks.length c f)):
  Calls Tryz.prog 63 #[.pointer (some ⟨pf,0,none⟩)] w fun e w'=>(∃v,e= .returned v)∧w.grownBy w' (some pf)∧w'.heap[pf]? =some (av p nm size g ks.length c {f with at_:=[],same:=false,lost:=true,read:=false}):=by
 have hc:=fun j=>ag w pf j _ _ _ h;have hz:=az h;have HG:=aa (ay (ay (ay (ay (World.grownBy.refl w (some pf)) 7 (.string ⟨#[]⟩)) 8 (.bool false)) 9 (.bool true)) 11 (.bool false));have HR:=aa (aC (aC (aC (aC h 7 (.string ⟨#[]⟩)) 8 (.bool false)) 9 (.bool true)) 11 (.bool false));clear h;go_enter Tryz.func63,Tryz.ntmps63;go_wp2;go_end0;exact⟨⟨_,rfl⟩,HG.out,HR.out⟩
theorem BG (h:w.heap[pf]? =some (av p nm size g ks.length c f)) (hm:f.mode=0):
  Calls Tryz.prog 17 #[.pointer (some ⟨pf,0,none⟩)] w fun e w'=>e= .returned (.string ⟨#[52,50]⟩)∧w=w':=by
 have HR:=aa (eZ h);have hc:=fun j=>ag w pf j _ _ _ h;rw[hm]at hc;clear h;go_enter Tryz.func17,Tryz.ntmps17;go_wp2_with fail;refine HR.out.mono ?_;rintro e w1 ⟨rfl,rfl⟩;clear HR;go_wp2;go_ret;exact⟨rfl,rfl⟩
theorem BH (h:w.heap[pf]? =some (av p nm size g ks.length c f)) (hm:0<f.mode):
  Calls Tryz.prog 17 #[.pointer (some ⟨pf,0,none⟩)] w fun e w'=>e= .returned (.string ⟨#[48,48]⟩)∧w.grownBy w' (some pf)∧w'.heap[pf]? =some (av p nm size g ks.length c {f with mode:=0}):=by
 have HR:=aa (eZ h);have hc:=fun j=>ag w pf j _ _ _ h;have hz:=az h;have HG:=aa (ay (World.grownBy.refl w (some pf)) 4 (.int .u8 0));have HB:=aa (aC h 4 (.int .u8 0));have Sd:¬(f.mode:Int)=0:=by omega
 clear h;go_enter Tryz.func17,Tryz.ntmps17;go_wp2_with fail;refine HR.out.mono ?_;rintro e w1 ⟨rfl,rfl⟩;clear HR;go_wp2;go_ret;exact⟨rfl,HG.out,HB.out⟩
theorem Ha {wr:J.B} {l:List Nat}:X.cB wr l 0=[52,50]:=rfl
theorem Nw {wr:J.B} {l:List Nat} {m:Nat} (h0:m≠0) (h:m∈l):X.cB wr l m=[48,48]:=by unfold X.cB;rw[if_neg h0,if_pos h]
theorem Kl {wr:J.B} {l:List Nat} {m:Nat} (h0:m≠0) (h:m∉l):X.cB wr l m=wr:=by unfold X.cB;rw[if_neg h0,if_neg h]
theorem BI (h:w.heap[pf]? =some (av p nm size g ks.length c f)) (di:J.B) (gm:Nat) (l:List Nat) (cm:Nat) (hl:l.length≤10) (hg:∀j (h:j<l.length),w.cell? ⟨gm,j,none⟩=some (.int .u8 (l[j]:Nat))):
  Calls Tryz.prog 53 #[.pointer (some ⟨pf,0,none⟩), .string ⟨di.toArray⟩, .slice (some ⟨gm,0,none⟩) l.length cm] w fun e w'=>e= .returned (.string ⟨(X.cB di l f.mode).toArray⟩)∧w=w':=by
 have HR:=aa (eZ h);have HM:=aa (D7 gm cm l f.mode w hg hl);have hc:=fun j=>ag w pf j _ _ _ h;by_cases h0:f.mode=0
 ·rw[h0,Ha];rw[h0]at hc;clear h hg HM;go_enter Tryz.func53,Tryz.ntmps53;go_wp2_with fail;refine HR.out.mono ?_;rintro e w1 ⟨rfl,rfl⟩;clear HR;go_wp2;go_ret;exact⟨rfl,rfl⟩
 ·have h1:¬(f.mode:Int)=0:=(by omega);by_cases hm:f.mode∈l
  ·rw[Nw h0 hm];rw[decide_eq_true hm]at HM;clear h hg;go_enter Tryz.func53,Tryz.ntmps53;go_wp2_with fail;refine HR.out.mono ?_;rintro e w1 ⟨rfl,rfl⟩;clear HR;go_wp2_with fail;refine HM.out.mono ?_;rintro e w1 ⟨rfl,rfl⟩;clear HM;go_wp2;go_ret;exact⟨rfl,rfl⟩
  ·rw[Kl h0 hm];rw[decide_eq_false hm]at HM;clear h hg;go_enter Tryz.func53,Tryz.ntmps53;go_wp2_with fail;refine HR.out.mono ?_;rintro e w1 ⟨rfl,rfl⟩;clear HR;go_wp2_with fail;refine HM.out.mono ?_;rintro e w1 ⟨rfl,rfl⟩;clear HM;go_wp2;go_ret;exact⟨rfl,rfl⟩
theorem aQ (h:w.heap[pf]? =some (av p nm size g ks.length c f)) (di:J.B) (l:List Nat) (n:Nat) (C:Array Value) (hC:C=(l.map fun(m:Nat)=>(.int .u8 (m:Nat):Value)).toArray) (hn:l.length=n) (hl:l.length≤10) (B:Nat) (hB:w.heap.size=B):
  Calls Tryz.prog 53 #[.pointer (some ⟨pf,0,none⟩), .string ⟨di.toArray⟩, .slice (some ⟨B,0,none⟩) n n] (w.alloc (.cells C 32)) fun e w'=>e= .returned (.string ⟨(X.cB di l f.mode).toArray⟩)∧w.alloc (.cells C 32)=w':=by
 subst hC hn hB;have hlt:=(ah h).1;refine BI ((((ai _ w).alloc (aj _) _).block pf hlt).trans h) di _ l l.length hl (fun j hj=> ?_);rw[cell_of_row _ w.heap.size j _ _ _ (heap_alloc_new w _)];simp[hj]
theorem mv (h:At w0 p fs s w) (hf:(pf,av p nm size g ks.length c f)∈fs) (ho:s.opn=false):
  Calls Tryz.prog 40 #[.pointer (some ⟨pf,0,none⟩)] w fun e w'=>e= .returned (.bool true)∧At w0 p fs (J.cC (J.cT s)) w':=by
 have HB:=aa (yX h ho);have hc:=fun j=>ag w pf j _ _ _ (h.get hf);have HF:=aa hf;clear h hf;go_enter Tryz.func40,Tryz.ntmps40;go_wp2_with fail;refine HB.out.mono ?_;rintro e w1 ⟨rfl,h1⟩;have HA:=aa (Bu h1 rfl);have hc1:=fun j=>ag w1 pf j _ _ _ (h1.get HF.out);clear h1 hc HB;go_wp2_with fail;refine HA.out.mono ?_;rintro e w2 ⟨rfl,h2⟩;have H2:=aa h2;clear h2;go_wp2;go_ret;exact⟨rfl,H2.out⟩
theorem nh (h:At w0 p fs s w) (hf:(pf,av p nm size g ks.length c f)∈fs) (ho:s.opn=false) (g':Nat) (w8:Array Value) (he:∀xs w,(callFunc g' xs).run Tryz.prog w= .ok (.enter g' xs) w) (R:J.St→Prop)
  (cA:∀w1,At w0 p fs (J.cT s) w1→Calls Tryz.prog g' w8 w1 fun e w'=>(∃v,e= .returned v)∧∃s1,At w0 p fs s1 w'∧R s1)
  (hcm:∀s1 w1,At w0 p fs s1 w1→R s1→∃n:Int,Calls Tryz.prog 98 #[.pointer (some ⟨p,0,none⟩)] w1 fun e w'=>e= .returned (.tuple #[.int .i64 n, .int .i64 0])∧At w0 p fs (J.aI s1) w'):
  Calls Tryz.prog 45 #[.pointer (some ⟨pf,0,none⟩), .func (.func g') #[] w8] w fun e w'=>e= .returned (.string ⟨#[48,48]⟩)∧∃s1,At w0 p fs (J.aI s1) w'∧R s1:=by
 have HB:=aa (yX h ho);have hc:=fun j=>ag w pf j _ _ _ (h.get hf);have HF:=aa hf;have HC:=aa cA;have HM:=aa hcm;clear h hf cA hcm;go_enter Tryz.func45,Tryz.ntmps45;go_wp2_with fail;refine HB.out.mono ?_;rintro e w1 ⟨rfl,h1⟩;have H1:=aa h1;clear h1 hc HB;go_wp2_with fail;refine(HC.out _ H1.out).mono ?_;rintro e w2 ⟨⟨v,rfl⟩,s1,h2,hR⟩;obtain⟨n,hm⟩:=HM.out _ _ h2 hR;have hc2:=fun j=>ag w2 pf j _ _ _ (h2.get HF.out);have DR:=aa hm;have HR:=aa hR;clear h2 hm HC H1 HM HF hR;go_wp2_with fail;refine DR.out.mono ?_;rintro e w3 ⟨rfl,h3⟩;have H3:=aa h3;clear h3 hc2 DR;go_wp2;go_ret;exact⟨rfl,s1,H3.out,HR.out⟩
end
section
variable {w0 : World} {p : Nat} {nm : J.B} {w w' : World} {s : J.St} {fs : List (Nat × Obj)}
theorem uj (h:At w0 p fs s w) (nm:J.B) (size:Nat) (A:Option Addr) (n c ct:Nat) (sy:ct<4294967296) (hl:J.look s.now (X.cK nm)=if 0<ct then some (R.bF ct)else none) (hn:nm.length≤100):
  Calls Tryz.prog 107 #[mq nm size (.slice A n c), .pointer (some ⟨p,0,none⟩)] w fun e w'=>e= .returned (.int .i64 (ct:Nat))∧At w0 p fs s w'∧Below w.heap.size w w':=by
 have hb1:Below w.heap.size w (w.alloc (ia nm size (.slice A n c))):=(ai _ w).alloc (aj _) _;have HB:=aa hb1;have HU:=aa (gA nm [67] (w.alloc (ia nm size (.slice A n c))) (w.heap.size+1) (by simp) (by omega) (by simp));have e1:nm++0::[67]=X.cK nm:=rfl;rw[e1]at HU;have HG:=aa (fun w1 (hb:Below w.heap.size w w1)=>dJ (h.below hb) (X.cK nm) (by rw[X.px];omega) (fun l hh=>by
  rw[hl]at hh;split at hh
  ·injection hh with hh;subst hh;rw[R.df];omega
  ·cases hh))
 rw[hl]at HG;clear h hl e1 hb1;by_cases h0:0<ct
 ·rw[if_pos h0]at HG;have hv:R.wM (R.bF ct)=ct:=R.pU sy;have HO:=aa (fun w=>GU (UInt8.ofNat (ct/16777216)) (UInt8.ofNat (ct/65536)) (UInt8.ofNat (ct/256)) (UInt8.ofNat ct) [] w);rw[show R.wM [UInt8.ofNat (ct/16777216),UInt8.ofNat (ct/65536),UInt8.ofNat (ct/256),UInt8.ofNat ct]=ct from hv]at HO;have e2:[UInt8.ofNat (ct/16777216),UInt8.ofNat (ct/65536),UInt8.ofNat (ct/256),UInt8.ofNat ct]=R.bF ct:=rfl;rw[e2]at HO;clear hv e2;go_enter Tryz.func107,Tryz.ntmps107;go_wp2_with fail;refine HU.out.mono ?_;rintro e w1 ⟨rfl,hb⟩;have hb2:Below w.heap.size w w1:=HB.out.trans (hb.mono HB.out.size);have bB:=aa hb2;clear hb HU HB;go_wp2_with fail;refine(HG.out _ bB.out).mono ?_;rintro e w2 ⟨v,rfl,hs,ha,hb3⟩;have hs:cE w2 _ v (R.bF ct):=hs;obtain⟨A2,c2,rfl,hc2,hby⟩:=hs.sl.by
  have hcv:=bN (c:=c2) hby
  have HA:=aa ha;have cO:=aa (hb2.trans (hb3.mono hb2.size));rw[R.df]at hcv⊢;clear hs ha hb3 hb2 hby hc2 HG bB;generalize(⟨(R.bF ct).toArray⟩:ByteArray)=T at hcv HO;go_wp2_with fail;refine(HO.out _).mono ?_;rintro e w3 ⟨rfl,hb4⟩;have dD:=aa (HA.out.below hb4);have jV:=aa (cO.out.trans (hb4.mono cO.out.size));clear hb4 HO cO HA hcv;go_wp2;go_ret;exact⟨rfl,dD.out,jV.out⟩
 ·obtain rfl:ct=0:=(by omega);rw[if_neg h0]at HG;go_enter Tryz.func107,Tryz.ntmps107;go_wp2_with fail;refine HU.out.mono ?_;rintro e w1 ⟨rfl,hb⟩;have hb2:Below w.heap.size w w1:=HB.out.trans (hb.mono HB.out.size);have bB:=aa hb2;clear hb HU HB;go_wp2_with fail;refine(HG.out _ bB.out).mono ?_;rintro e w2 ⟨v,rfl,hs,ha,hb3⟩;have hs:cE w2 _ v []:=hs;obtain⟨A2,c2,rfl,hc2,hby⟩:=hs.sl.by
  have HA:=aa ha;have cO:=aa (hb2.trans (hb3.mono hb2.size));rw[List.length_nil];clear hs ha hb3 hb2 hby hc2 HG bB;go_wp2;go_ret;exact⟨rfl,HA.out,cO.out⟩
theorem Hb (nm:J.B) (x:J.B):Lib.trimPrefix (X.pre nm 0++x) (X.pre nm 0)=x:=by
 unfold Lib.trimPrefix;rw[if_pos (by unfold Lib.hasPrefix;simp)];simp
theorem rT (h:At w0 p fs s w) (nm:J.B) (size:Nat) (A:Option Addr) (n c i:Nat) (x q:J.B) (hi:i<256) (hn:nm.length≤100) (hx:x.length≤800) (hq:q.length≤800) (h0:i=0→x=q) (h1:i≠0→(J.look s.now (X.pre nm i++x)).getD []=q)
  (hl:∀l,J.look s.now (X.bP nm 0 q 0)=some l→l.length≤90000000):
  Calls Tryz.prog 109 #[mq nm size (.slice A n c), .pointer (some ⟨p,0,none⟩), .int .i64 (i:Nat), .string ⟨(X.pre nm i++x).toArray⟩] w fun e w'=>∃v,e= .returned (.tuple #[v, .string ⟨q.toArray⟩])∧cE w' (· <w.heap.size) v ((J.look s.now (X.bP nm 0 q 0)).getD [])∧At w0 p fs s w'∧Below w.heap.size w w':=by
 have hpl:=X.kt nm i;have hb1:Below w.heap.size w (w.alloc (ia nm size (.slice A n c))):=(ai _ w).alloc (aj _) _;have HB:=aa hb1;have HP:=aa (aZ nm size A n c 0 (by decide) (by omega) (w.alloc (ia nm size (.slice A n c))));have HE:=aa (fun W=>cy nm size A n c 0 0 q (by decide) (by decide) (by omega) (by omega) W);have HG:=aa (fun w1 (hb:Below w.heap.size w w1)=>dJ (h.below hb) (X.bP nm 0 q 0) (by have:=X.b9 nm 0 q 0;omega) hl);have HT:=aa (fun W=>Tryz.strings_TrimPrefix ⟨(X.pre nm i++x).toArray⟩ ⟨(X.pre nm 0).toArray⟩ W);have VY:(⟨(X.pre nm i++x).toArray⟩:ByteArray).data.toList=X.pre nm i++x:=rfl;have VZ:(⟨(X.pre nm 0).toArray⟩:ByteArray).data.toList=X.pre nm 0:=rfl;rw[VY,VZ]at HT;generalize(J.look s.now (X.bP nm 0 q 0)).getD []=R0 at HG⊢;generalize(J.look s.now (X.bP nm 0 q 0)).isSome=R1 at HG;clear hl VY VZ hb1;by_cases AD:i=0
 ·subst AD;obtain rfl:=h0 rfl;rw[Hb]at HT;generalize(⟨(X.pre nm 0++x).toArray⟩:ByteArray)=E at HT⊢;generalize(⟨(X.pre nm 0).toArray⟩:ByteArray)=P at HT HP;generalize(⟨(X.bP nm 0 x 0).toArray⟩:ByteArray)=E0 at HG HE;generalize(⟨x.toArray⟩:ByteArray)=XQ at HT HE⊢;clear h h0 h1;go_enter Tryz.func109,Tryz.ntmps109;go_wp2_with fail;refine HP.out.mono ?_;rintro e w1 ⟨rfl,hb⟩;have bB:=aa (HB.out.trans (hb.mono HB.out.size));have hcb:=fun j=>ag w1 w.heap.size j _ _ _ ((hb.block w.heap.size (by simp)).trans (heap_alloc_new w _));clear hb HP HB;go_wp2_with fail;refine(HT.out _).mono ?_;rintro e Yj ⟨rfl,xU⟩;subst xU;clear HT;go_wp2_with fail;refine(HE.out _).mono ?_;rintro e w2 ⟨rfl,hb⟩;have cO:=aa (bB.out.trans (hb.mono bB.out.size));clear hb HE bB hcb;go_wp2_with fail;refine(HG.out _ cO.out).mono ?_;rintro e w3 ⟨v,rfl,hs,ha,hb⟩;have HA:=aa ha;have HS:=aa (hs.weak (M':=(· <w.heap.size)) (fun k hk=>aq hk cO.out.size));have jV:=aa (cO.out.trans (hb.mono cO.out.size));clear hs ha hb HG cO;go_wp2;go_ret2;exact⟨_,rfl,HS.out,HA.out,jV.out⟩
 ·have Fw:(0:Int)<(i:Nat):=(by omega);have sq:=aa (fun w1 (hb:Below w.heap.size w w1)=>dJ (h.below hb) (X.pre nm i++x) (by rw[List.length_append];omega) (fun l hh=>by have:=h1 AD;rw[hh]at this;have this:l=q:=this;subst this;omega));rw[h1 AD]at sq;generalize(J.look s.now (X.pre nm i++x)).isSome=R2 at sq;generalize(⟨(X.pre nm i++x).toArray⟩:ByteArray)=E at HT sq⊢;generalize(⟨(X.pre nm 0).toArray⟩:ByteArray)=P at HT HP;generalize(⟨(X.bP nm 0 q 0).toArray⟩:ByteArray)=E0 at HG HE;generalize V7:(⟨q.toArray⟩:ByteArray)=XQ at HE⊢;have Yk:=aa V7;clear h h0 h1 V7;go_enter Tryz.func109,Tryz.ntmps109;go_wp2_with fail;refine HP.out.mono ?_;rintro e w1 ⟨rfl,hb⟩;have bB:=aa (HB.out.trans (hb.mono HB.out.size));have Ef:=(hb.block w.heap.size (by simp)).trans (heap_alloc_new w (ia nm size (.slice A n c)));clear hb HP HB;go_wp2_with fail;refine(HT.out _).mono ?_;rintro e Yj ⟨rfl,xU⟩;subst xU;clear HT;go_wp2_with fail;refine(sq.out _ bB.out).mono ?_;rintro e w2 ⟨v1,rfl,hs,ha,hb⟩;obtain⟨A2,c2,rfl,hc2,hby⟩:=hs.sl.by
  have hcv:=bN (c:=c2) hby
  have hcb:=fun j=>ag w2 w.heap.size j _ _ _ ((hb.block w.heap.size (ah Ef).1).trans Ef);have cO:=aa (bB.out.trans (hb.mono bB.out.size));rw[Yk.out]at hcv;clear hs ha hb sq bB Ef hby hc2;go_wp2_with fail;refine(HE.out _).mono ?_;rintro e w3 ⟨rfl,hb⟩;have jV:=aa (cO.out.trans (hb.mono cO.out.size));clear hb HE cO hcb hcv;go_wp2_with fail;refine(HG.out _ jV.out).mono ?_;rintro e w4 ⟨v,rfl,hs,ha,hb⟩;have HA:=aa ha;have HS:=aa (hs.weak (M':=(· <w.heap.size)) (fun k hk=>aq hk jV.out.size));have jX:=aa (jV.out.trans (hb.mono jV.out.size));clear hs ha hb HG jV;go_wp2;go_ret2;exact⟨_,rfl,HS.out,HA.out,jX.out⟩
end
structure XF (nm:J.B) (size:Nat) (ks:List X.Ky) (rows:List X.Row) (ct:Nat) (now:List (J.B×J.B)):Prop where
 con:X.ln nm (X.attr size ks) ks rows ct now
 rows:X.aS ks size ct rows
 ks:X.fQ ks size
 ct:ct<1000000
 nm1:1≤nm.length
 nm:nm.length≤100
 many:now.length≤100000
 len:∀k l,J.look now k=some l→l.length≤8192
def zb (ks:List X.Ky) (rows:List X.Row) (i:Nat) (r:X.Row):Bool:=match(X.bS ks i rows).find? (X.nC ks i r ·)with
 |some x=>decide (X.val ks i x.b=X.val ks i r.b)
 |none=>false
def kQ (ks:List X.Ky) (rows:List X.Row) (i:Nat) (r:X.Row):J.B:=if 0<i∧zb ks rows i r=true then [48,50]else [48,48]
section
variable {w0 : World} {p pf g c size ct u : Nat} {nm : J.B} {ks : List X.Ky} {rows : List X.Row} {f : Fv} {w w' : World} {s s1 s2 : J.St} {fs : List (Nat × Obj)} {ok : Obj}
theorem XF.lens (h:XF nm size ks rows ct s.now) {i:Nat} (hi:i<ks.length):1≤X.lens ks i∧X.lens ks i≤160:=by
 have:=h.ks.key _ (X.aR hi);exact⟨this.1,this.2.1⟩
theorem XF.vlen (h:XF nm size ks rows ct s.now) {i:Nat} (hi:i<ks.length) {r:X.Row} (hr:r∈rows):(X.val ks i r.b).length=X.lens ks i:=X.aP (h.rows.fit r hr) hi
theorem wa (ks:List X.Ky) (i:Nat) (r:X.Row):∃y:J.B,y.length≤4∧X.tail i (X.val ks i r.b) (r.t i)=X.val ks i r.b++y:=by
 unfold X.tail;split
 ·exact⟨[],by simp,by simp⟩
 ·exact⟨R.bF (r.t i),by rw[R.df];exact aj _,rfl⟩
theorem lO (h:XF nm size ks rows ct s.now) {i:Nat} (hi:i<ks.length) {r:X.Row} (hr:r∈rows) (w:World) (hk:eY w g ks):
  Calls Tryz.prog 51 #[mq nm size (.slice (some ⟨g,0,none⟩) ks.length c), .int .i64 (i:Nat), .string ⟨(X.aJ nm ks i r).toArray⟩] w fun e w'=>e= .returned (.string ⟨(X.val ks i r.b).toArray⟩)∧Below w.heap.size w w':=by
 obtain⟨y,hy,e⟩:=wa ks i r;have hl:=h.vlen hi hr;have hl2:=h.lens hi;have h8:=h.ks.one;have lf:=h.nm;have:=rR nm size g c ks i (X.tail i (X.val ks i r.b) (r.t i)) w hk hi (by omega) (by omega) (by rw[e,List.length_append];omega) (by rw[e,List.length_append];omega);have e2:(X.tail i (X.val ks i r.b) (r.t i)).take (X.lens ks i)=X.val ks i r.b:=by rw[e,←hl,List.take_left]
 rw[e2]at this;exact this
theorem uk (h:At w0 p fs s w) (hX:XF nm size ks rows ct s.now) {i:Nat} (hi:i<ks.length) {r:X.Row} (hr:r∈rows) (A:Option Addr) (n c:Nat):
  Calls Tryz.prog 109 #[mq nm size (.slice A n c), .pointer (some ⟨p,0,none⟩), .int .i64 (i:Nat), .string ⟨(X.aJ nm ks i r).toArray⟩] w fun e w'=>∃v,e= .returned (.tuple #[v, .string ⟨(X.val ks 0 r.b).toArray⟩])∧cE w' (· <w.heap.size) v r.b∧At w0 p fs s w'∧Below w.heap.size w w':=by
 obtain⟨y,hy,e⟩:=wa ks i r;have h8:=hX.ks.one;have hl:=hX.vlen hi hr;have hl2:=hX.lens hi;have hl0:=hX.vlen (i:=0) (by omega) hr;have ZE:=hX.lens (i:=0) (by omega);have hlk:=hX.con.ql hX.rows hr;have:=rT h nm size A n c i (X.tail i (X.val ks i r.b) (r.t i)) (X.val ks 0 r.b) (by omega) hX.nm (by rw[e,List.length_append];omega) (by omega) (fun e0=>by subst e0;rfl) (fun hne=>by
  have:=hX.con.ud hX.rows (by have:=hX.ct;omega) hne hi hr;show(J.look s.now (X.aJ nm ks i r)).getD []=_;rw[this];rfl) (fun l hl=>by have:=hX.len _ _ hl;omega)
 rw[hlk]at this;exact this
theorem wh (h:At w0 p ((pf,av p nm size g ks.length c f)::fs) s w) (hf:∀x∈fs,x.1≠pf) (bq:(g,ok)∈fs) (hO:bI ok ks) (ht:J.Two s) (hX:XF nm size ks rows ct s.now) (hkey:f.key<ks.length) (r:X.Row) (hr:r∈rows):
  Calls Tryz.prog 67 #[.pointer (some ⟨pf,0,none⟩), .string ⟨(X.aJ nm ks f.key r).toArray⟩] w fun e w'=>∃v,e= .returned (.tuple #[v, .string ⟨(kQ ks rows f.key r).toArray⟩])∧cE w' (· <w.heap.size) v r.b∧At w0 p ((pf,av p nm size g ks.length c {f with at_:=X.aJ nm ks f.key r,same:=false,lost:=false,last:=X.val ks 0 r.b,read:=true})::fs) s w':=by
 have h0:=h.get ae;have h0:w.heap[pf]? =some (av p nm size g ks.length c f):=h0;have hlt:=(ah h0).1;have hR:=fun w1 (hb:Below w.heap.size w w1)=>uk (h.below hb) hX hkey hr (some ⟨g,0,none⟩) ks.length c;have hP:=fun W=>aZ nm size (some ⟨g,0,none⟩) ks.length c f.key (by have:=hX.ks.one;omega) (by have:=hX.nm;omega) W;have qs:=fun w1 t (hh:At w0 p ((pf,av p nm size g ks.length c {f with at_:=X.aJ nm ks f.key r,same:=false,lost:=false,last:=X.val ks 0 r.b,read:=true})::fs) s w1)=>iP hh ⟨(X.pre nm f.key).toArray⟩ (X.aJ nm ks f.key r) t (by have:=hX.many;omega);have xe:=fun w1 (hh:At w0 p ((pf,av p nm size g ks.length c {f with at_:=X.aJ nm ks f.key r,same:=false,lost:=false,last:=X.val ks 0 r.b,read:=true})::fs) s w1)=>qs w1 false hh;rw[hX.con.vT hX.ks hX.rows (by have:=hX.ct;omega) hkey hr]at xe;have hV:=fun x (hx:x∈rows) w1 (hk:eY w1 g ks)=>lO (c:=c) hX hkey hx w1 hk;have P1:=hV r hr;have hK:=fun w1 (hh:At w0 p ((pf,av p nm size g ks.length c {f with at_:=X.aJ nm ks f.key r,same:=false,lost:=false,last:=X.val ks 0 r.b,read:=true})::fs) s w1)=>hO.2 w1 g (hh.get (af _ bq));have hF:=fun w1 w2 (hh:At w0 p ((pf,av p nm size g ks.length c f)::fs) s w1) (hg:w1.grownBy w2 (some pf)) (hq:w2.heap[pf]? =some (av p nm size g ks.length c {f with at_:=X.aJ nm ks f.key r,same:=false,lost:=false,last:=X.val ks 0 r.b,read:=true}))=>bc hh hf ht hg hq;have hM:∀x,(X.bS ks f.key rows).find? (X.nC ks f.key r ·)=some x→x∈rows:=fun x hx=>(X.bm ks f.key x rows).1 (X.cR hx).1;obtain⟨f2,hf2⟩:∃f2:Fv,f2={f with at_:=X.aJ nm ks f.key r,same:=false,lost:=false,last:=X.val ks 0 r.b,read:=true}:=⟨_,rfl⟩;have hk2:f2.key=f.key:=by rw[hf2]
 rw[←hf2]at xe hK hF⊢;have rU:=aa hf2;have HR:=aa hR;have HP:=aa hP;have rq:=aa xe;have HV:=aa hV;have Nx:=aa P1;have HK:=aa hK;have HF:=aa hF;have HM:=aa hM;have a7:=aa hlt;have H0:=aa h0;have qu:kQ ks rows f.key r=if 0<f.key∧zb ks rows f.key r=true then [48,50]else [48,48]:=rfl;unfold zb at qu;have xg:=aa qu;generalize kQ ks rows f.key r=ts at xg⊢;generalize(⟨(X.pre nm f.key).toArray⟩:ByteArray)=P at HP rq;clear h hf bq hO ht hX hkey hR hP qs xe hV P1 hK hF hM qu hf2 hr;go_enter Tryz.func67,Tryz.ntmps67;go_upto_region 1 with fail;refine aA 18 (.rd 0 (.rd 1 (.rd 2 (.rd 3 (.rd 4 (.rd 5 (.rd 6 (.rd 7 (.rd 8 (.rd 9 (.rd 10 (.rd 11 (.rd 12 (.wr 13 (.rd 14 (.rd 15 (.rd 16 (.wr 17 .fin)))))))))))))))))) (fun w'=>w'.heap[pf]? =some (av p nm size g ks.length c f)) (by kernel_rfl) (by kernel_rfl) (fun c a d v w h=>by cases d<;>exact h) h0 ?_;repeat
  refine aw (v:= ?_) (by rfl) (by rfl) (fun w' hS=> ?_) (fun K hK=> ?_);rotate_left
  ·have hc:=fun j=>ag w' pf j _ _ _ hS;clear hS;go_simp;try with_reducible rfl
  go_simp;refine hK _ ?_;clear hK K
 clear h0;refine wpPm_write (by rfl) (fun K hK=> ?_);go_simp;refine(HR.out _ ((ai _ w).drew)).mono ?_;rintro e w1 ⟨v,rfl,hs,ha,hb⟩;have AQ:Below w.heap.size w w1:=((ai _ w).drew).trans hb;have h1:w1.heap[pf]? =some (av p nm size g ks.length c f):=ha.get ae;refine hK.out _ _ (fun w'=>w'.heap[pf]? =some (av p nm size g ks.length c f)) (fun _ h=>h) (ha.get ae) ?_;clear hK K;repeat
  refine aw (v:= ?_) (by rfl) (by rfl) (fun w' hS=> ?_) (fun K hK=> ?_);rotate_left
  ·have hc:=fun j=>ag w' pf j _ _ _ hS;clear hS;go_simp;try with_reducible rfl
  go_simp;refine hK _ ?_;clear hK K
 refine wpPm_write (by rfl) (fun K hK=> ?_);go_simp;refine hK.out _ _ (fun w'=>w'.heap[pf]? =some (av p nm size g ks.length c f)) (fun _ h=>h) h1 ?_;clear hK K;have hs:cE w1 (· <w.heap.size) v r.b:=hs;have hz:=az h1;have hc:=fun j=>ag w1 pf j _ _ _ h1;have sQ:=ay (ay (ay (ay (ay (World.grownBy.refl w1 (some pf)) 7 (.string ⟨(X.aJ nm ks f.key r).toArray⟩)) 8 (.bool false)) 9 (.bool false)) 10 (.string ⟨(X.val ks 0 r.b).toArray⟩)) 11 (.bool true);have Hc:=aC (aC (aC (aC (aC h1 7 (.string ⟨(X.aJ nm ks f.key r).toArray⟩)) 8 (.bool false)) 9 (.bool false)) 10 (.string ⟨(X.val ks 0 r.b).toArray⟩)) 11 (.bool true);have cI:=aa (HF.out _ _ ha sQ (by rw[rU.out];exact Hc));have sk:=aa (hs.step (Step.bY sQ (fun k e _=>by injection e with e;subst e;exact a7.out):Step _ (· <w.heap.size) _ _));clear sQ Hc hs ha hb HR HF;show wpList _ _ _ _ _ _;go_wp2_with fail;clear h1 hz hc;refine aG (fun W5=>At w0 p ((pf,av p nm size g ks.length c f2)::fs) s W5∧cE W5 (· <w.heap.size) v r.b) ⟨cI.out,sk.out⟩ ?_;rintro W5 ⟨pP,hs5⟩;have h5:W5.heap[pf]? =some (av p nm size g ks.length c f2):=pP.get ae;have HA:=aa pP;have HS:=aa hs5;clear cI sk pP hs5;refine aA 8 (.rd 0 (.rd 1 (.rd 2 (.rd 3 (.rd 4 (.rd 5 (.rd 6 (.rd 7 .fin)))))))) (fun w'=>w'.heap[pf]? =some (av p nm size g ks.length c f2)) (by kernel_rfl) (by kernel_rfl) (fun c a d v w h=>by cases d<;>exact h) h5 ?_;repeat
  refine aw (v:= ?_) (by rfl) (by rfl) (fun w' hS=> ?_) (fun K hK=> ?_);rotate_left
  ·have hc:=fun j=>ag w' pf j _ _ _ hS;rw[hk2]at hc;clear hS;go_simp;try with_reducible rfl
  go_simp;refine hK _ ?_;clear hK K
 show wpList _ _ _ _ _ _;go_wp2_with fail;refine(HP.out _).mono ?_;rintro e W6 ⟨rfl,hb⟩;have hb:Below W5.heap.size W5 W6:=((ai _ W5).drew).trans hb;have bK:=aa (HA.out.below hb);have P2:=aa (HS.out.step (Step.aH hb));have hc:=fun j=>ag W6 pf j _ _ _ (bK.out.get ae);clear hb HP HA HS h5;go_wp2_with fail;refine(rq.out _ bK.out).mono ?_;rintro e W7 ⟨rfl,hb⟩;have bz:=aa (bK.out.below hb);have pj:=aa (P2.out.step (Step.aH hb));clear hb hc rq bK P2;by_cases cQ:f.key=0
 ·have jB:¬(0:Int)<(f.key:Nat):=(by omega);have qu:ts=[48,48]:=(by rw[xg.out,if_neg (by omega)]);subst qu;clear xg;generalize((List.find? (fun x=>X.nC ks f.key r x) (X.bS ks f.key rows)).map (X.aJ nm ks f.key))=mo;go_wp2_with fail;refine aL (.rd 0 (.rd 1 (.rd 2 (.rd 3 (.rd 4 (.rd 5 (.rd 6 (.rd 7 (.rd 8 (.rd 9 (.rd 10 (.rd 11 (.rd 12 (.rd 13 (.rd 14 (.rd 15 (.rd 16 (.rd 17 (.rd 19 (.rd 20 (.rd 21 (.rd 22 (.rd 23 (.rd 24 (.rd 25 (.rd 26 (.rd 27 (.wr 18 (.wr 28 (.rd 29 (.rd 30 .fin))))))))))))))))))))))))))))))) (fun w'=>At w0 p ((pf,av p nm size g ks.length c f2)::fs) s w'∧cE w' (· <w.heap.size) v r.b) (by kernel_rfl) (by kernel_rfl) (fun c a d v w h=>by cases d<;>exact h) ⟨bz.out.below ((ai _ _).drew),pj.out.step (Step.aH ((ai _ _).drew))⟩ ?_;repeat
   first
   |refine aw (v:= ?_) (by rfl) (by rfl) (fun w' hS=> ?_) (fun K hK=> ?_)
    rotate_left
    ·have hc:=fun j=>ag w' pf j _ _ _ (hS.1.get ae);rw[hk2]at hc;clear hS;go_simp;try with_reducible rfl
    go_simp;refine hK _ ?_;clear hK K
   |refine ax (by rfl) (by rfl) (fun K hK=> ?_)
    go_simp;refine hK _ ?_;clear hK K
  refine wpPm_write (by rfl) (fun K hK=> ?_);go_simp;refine hK.out _ _ (fun w'=>At w0 p ((pf,av p nm size g ks.length c f2)::fs) s w'∧cE w' (· <w.heap.size) v r.b) (fun _ h=>h) ⟨bz.out.below ((ai _ _).drew),pj.out.step (Step.aH ((ai _ _).drew))⟩ ?_;clear hK K;refine wpPm_write (by rfl) (fun K hK=> ?_);go_simp;refine hK.out _ _ (fun w'=>At w0 p ((pf,av p nm size g ks.length c f2)::fs) s w'∧cE w' (· <w.heap.size) v r.b) (fun _ h=>h) ⟨bz.out.below ((ai _ _).drew),pj.out.step (Step.aH ((ai _ _).drew))⟩ ?_;clear hK K;repeat
   first
   |refine aw (v:= ?_) (by rfl) (by rfl) (fun w' hS=> ?_) (fun K hK=> ?_)
    rotate_left
    ·have hc:=fun j=>ag w' pf j _ _ _ (hS.1.get ae);rw[hk2]at hc;clear hS;go_simp;try with_reducible rfl
    go_simp;refine hK _ ?_;clear hK K
   |refine ax (by rfl) (by rfl) (fun K hK=> ?_)
    go_simp;refine hK _ ?_;clear hK K
  show wpList _ _ _ _ _ _;go_wp2;go_ret2;exact⟨_,rfl,pj.out.step (Step.aH ((ai _ _).drew)),bz.out.below ((ai _ _).drew)⟩
 ·have jB:(0:Int)<(f.key:Nat):=(by omega);have hk3:0<f.key:=(by omega);cases Hd:(X.bS ks f.key rows).find? (X.nC ks f.key r ·)with
  |none=>
   rw[Hd]at xg;have qu:ts=[48,48]:=(by rw[xg.out,if_neg (fun h=>by cases h.2)]);subst qu;clear xg Hd;go_wp2_with fail;refine aL (.rd 0 (.rd 1 (.rd 2 (.rd 3 (.rd 4 (.rd 5 (.rd 6 (.rd 7 (.rd 8 (.rd 9 (.rd 10 (.rd 11 (.rd 12 (.rd 13 (.rd 14 (.rd 15 (.rd 16 (.rd 17 (.rd 19 (.rd 20 (.rd 21 (.rd 22 (.rd 23 (.rd 24 (.rd 25 (.rd 26 (.rd 27 (.wr 18 (.wr 28 (.rd 29 (.rd 30 .fin))))))))))))))))))))))))))))))) (fun w'=>At w0 p ((pf,av p nm size g ks.length c f2)::fs) s w'∧cE w' (· <w.heap.size) v r.b) (by kernel_rfl) (by kernel_rfl) (fun c a d v w h=>by cases d<;>exact h) ⟨bz.out.below ((ai _ _).drew),pj.out.step (Step.aH ((ai _ _).drew))⟩ ?_;repeat
    first
    |refine aw (v:= ?_) (by rfl) (by rfl) (fun w' hS=> ?_) (fun K hK=> ?_)
     rotate_left
     ·have hc:=fun j=>ag w' pf j _ _ _ (hS.1.get ae);rw[hk2]at hc;clear hS;go_simp;try with_reducible rfl
     go_simp;refine hK _ ?_;clear hK K
    |refine ax (by rfl) (by rfl) (fun K hK=> ?_)
     go_simp;refine hK _ ?_;clear hK K
   refine wpPm_write (by rfl) (fun K hK=> ?_);go_simp;refine hK.out _ _ (fun w'=>At w0 p ((pf,av p nm size g ks.length c f2)::fs) s w'∧cE w' (· <w.heap.size) v r.b) (fun _ h=>h) ⟨bz.out.below ((ai _ _).drew),pj.out.step (Step.aH ((ai _ _).drew))⟩ ?_;clear hK K;refine wpPm_write (by rfl) (fun K hK=> ?_);go_simp;refine hK.out _ _ (fun w'=>At w0 p ((pf,av p nm size g ks.length c f2)::fs) s w'∧cE w' (· <w.heap.size) v r.b) (fun _ h=>h) ⟨bz.out.below ((ai _ _).drew),pj.out.step (Step.aH ((ai _ _).drew))⟩ ?_;clear hK K;repeat
    first
    |refine aw (v:= ?_) (by rfl) (by rfl) (fun w' hS=> ?_) (fun K hK=> ?_)
     rotate_left
     ·have hc:=fun j=>ag w' pf j _ _ _ (hS.1.get ae);rw[hk2]at hc;clear hS;go_simp;try with_reducible rfl
     go_simp;refine hK _ ?_;clear hK K
    |refine ax (by rfl) (by rfl) (fun K hK=> ?_)
     go_simp;refine hK _ ?_;clear hK K
   show wpList _ _ _ _ _ _;go_wp2;go_ret2;exact⟨_,rfl,pj.out.step (Step.aH ((ai _ _).drew)),bz.out.below ((ai _ _).drew)⟩
  |some x=>
   rw[Hd]at xg;have hx:=HM.out x Hd;have Km:=aa (HV.out x hx);have qu:ts=if X.val ks f.key x.b=X.val ks f.key r.b then [48,50]else [48,48]:=by
    rw[xg.out];by_cases e:X.val ks f.key x.b=X.val ks f.key r.b
    ·rw[if_pos ⟨by omega,decide_eq_true e⟩,if_pos e]
    ·rw[if_neg (fun h=>e (of_decide_eq_true h.2)),if_neg e]
   have iX:=ea (X.val ks f.key x.b) (X.val ks f.key r.b);have xh:=aa qu;clear xg Hd hx qu HV HM;generalize(⟨(X.val ks f.key x.b).toArray⟩:ByteArray)=vx at iX Km;generalize TJ:(⟨(X.val ks f.key r.b).toArray⟩:ByteArray)=vr at iX Nx;clear TJ;by_cases Eg:X.val ks f.key x.b=X.val ks f.key r.b
   ·rw[decide_eq_true Eg]at iX;have qu:ts=[48,50]:=(by rw[xh.out,if_pos Eg]);subst qu;clear xh Eg;go_wp2_with fail;refine aL (.rd 0 (.rd 1 (.rd 2 (.rd 3 (.rd 4 (.rd 5 (.rd 6 (.rd 7 (.rd 8 (.rd 9 (.rd 10 (.rd 11 (.rd 12 (.rd 13 (.rd 14 (.rd 15 (.rd 16 (.rd 17 (.rd 19 (.rd 20 (.rd 21 (.rd 22 (.rd 23 (.rd 24 (.rd 25 (.rd 26 (.rd 27 (.wr 18 (.wr 28 (.rd 29 (.rd 30 .fin))))))))))))))))))))))))))))))) (fun w'=>At w0 p ((pf,av p nm size g ks.length c f2)::fs) s w'∧cE w' (· <w.heap.size) v r.b) (by kernel_rfl) (by kernel_rfl) (fun c a d v w h=>by cases d<;>exact h) ⟨bz.out.below ((ai _ _).drew),pj.out.step (Step.aH ((ai _ _).drew))⟩ ?_;repeat
     first
     |refine aw (v:= ?_) (by rfl) (by rfl) (fun w' hS=> ?_) (fun K hK=> ?_)
      rotate_left
      ·have hc:=fun j=>ag w' pf j _ _ _ (hS.1.get ae);rw[hk2]at hc;clear hS;go_simp;try with_reducible rfl
      go_simp;refine hK _ ?_;clear hK K
     |refine ax (by rfl) (by rfl) (fun K hK=> ?_)
      go_simp;refine hK _ ?_;clear hK K
    refine wpPm_write (by rfl) (fun K hK=> ?_);go_simp;refine(Km.out _ (HK.out _ (bz.out.below ((ai _ _).drew)))).mono ?_;rintro e W8 ⟨rfl,hb⟩;have hb:Below W7.heap.size W7 W8:=((ai _ W7).drew).trans hb;have jd:=aa (bz.out.below hb);have Eh:=aa (pj.out.step (Step.aH hb));refine hK.out _ _ (fun w'=>At w0 p ((pf,av p nm size g ks.length c f2)::fs) s w'∧cE w' (· <w.heap.size) v r.b) (fun _ h=>h) ⟨jd.out,Eh.out⟩ ?_;clear hK K hb;refine wpPm_write (by rfl) (fun K hK=> ?_);go_simp;refine(Nx.out _ (HK.out _ jd.out)).mono ?_;rintro e W9 ⟨rfl,hb⟩;have gC:=aa (jd.out.below hb);have Ei:=aa (Eh.out.step (Step.aH hb));refine hK.out _ _ (fun w'=>At w0 p ((pf,av p nm size g ks.length c f2)::fs) s w'∧cE w' (· <w.heap.size) v r.b) (fun _ h=>h) ⟨gC.out,Ei.out⟩ ?_;clear hK K hb;repeat
     first
     |refine aw (v:= ?_) (by rfl) (by rfl) (fun w' hS=> ?_) (fun K hK=> ?_)
      rotate_left
      ·have hc:=fun j=>ag w' pf j _ _ _ (hS.1.get ae);rw[hk2]at hc;clear hS;go_simp;try with_reducible rfl
      go_simp;refine hK _ ?_;clear hK K
     |refine ax (by rfl) (by rfl) (fun K hK=> ?_)
      go_simp;refine hK _ ?_;clear hK K
    show wpList _ _ _ _ _ _;go_wp2;go_ret2;exact⟨_,rfl,Ei.out,gC.out⟩
   ·rw[decide_eq_false Eg]at iX;have qu:ts=[48,48]:=(by rw[xh.out,if_neg Eg]);subst qu;clear xh Eg;go_wp2_with fail;refine aL (.rd 0 (.rd 1 (.rd 2 (.rd 3 (.rd 4 (.rd 5 (.rd 6 (.rd 7 (.rd 8 (.rd 9 (.rd 10 (.rd 11 (.rd 12 (.rd 13 (.rd 14 (.rd 15 (.rd 16 (.rd 17 (.rd 19 (.rd 20 (.rd 21 (.rd 22 (.rd 23 (.rd 24 (.rd 25 (.rd 26 (.rd 27 (.wr 18 (.wr 28 (.rd 29 (.rd 30 .fin))))))))))))))))))))))))))))))) (fun w'=>At w0 p ((pf,av p nm size g ks.length c f2)::fs) s w'∧cE w' (· <w.heap.size) v r.b) (by kernel_rfl) (by kernel_rfl) (fun c a d v w h=>by cases d<;>exact h) ⟨bz.out.below ((ai _ _).drew),pj.out.step (Step.aH ((ai _ _).drew))⟩ ?_;repeat
     first
     |refine aw (v:= ?_) (by rfl) (by rfl) (fun w' hS=> ?_) (fun K hK=> ?_)
      rotate_left
      ·have hc:=fun j=>ag w' pf j _ _ _ (hS.1.get ae);rw[hk2]at hc;clear hS;go_simp;try with_reducible rfl
      go_simp;refine hK _ ?_;clear hK K
     |refine ax (by rfl) (by rfl) (fun K hK=> ?_)
      go_simp;refine hK _ ?_;clear hK K
    refine wpPm_write (by rfl) (fun K hK=> ?_);go_simp;refine(Km.out _ (HK.out _ (bz.out.below ((ai _ _).drew)))).mono ?_;rintro e W8 ⟨rfl,hb⟩;have hb:Below W7.heap.size W7 W8:=((ai _ W7).drew).trans hb;have jd:=aa (bz.out.below hb);have Eh:=aa (pj.out.step (Step.aH hb));refine hK.out _ _ (fun w'=>At w0 p ((pf,av p nm size g ks.length c f2)::fs) s w'∧cE w' (· <w.heap.size) v r.b) (fun _ h=>h) ⟨jd.out,Eh.out⟩ ?_;clear hK K hb;refine wpPm_write (by rfl) (fun K hK=> ?_);go_simp;refine(Nx.out _ (HK.out _ jd.out)).mono ?_;rintro e W9 ⟨rfl,hb⟩;have gC:=aa (jd.out.below hb);have Ei:=aa (Eh.out.step (Step.aH hb));refine hK.out _ _ (fun w'=>At w0 p ((pf,av p nm size g ks.length c f2)::fs) s w'∧cE w' (· <w.heap.size) v r.b) (fun _ h=>h) ⟨gC.out,Ei.out⟩ ?_;clear hK K hb;repeat
     first
     |refine aw (v:= ?_) (by rfl) (by rfl) (fun w' hS=> ?_) (fun K hK=> ?_)
      rotate_left
      ·have hc:=fun j=>ag w' pf j _ _ _ (hS.1.get ae);rw[hk2]at hc;clear hS;go_simp;try with_reducible rfl
      go_simp;refine hK _ ?_;clear hK K
     |refine ax (by rfl) (by rfl) (fun K hK=> ?_)
      go_simp;refine hK _ ?_;clear hK K
    show wpList _ _ _ _ _ _;go_wp2;go_ret2;exact⟨_,rfl,Ei.out,gC.out⟩
end
end Go.Proofs.YtipljcmmokaokaaGreat
