import Derived.Test.YtipljcmmokaokaaGreatQ08
set_option linter.unusedVariables false
set_option linter.unusedSimpArgs false
set_option maxHeartbeats 40000000
namespace Go.Proofs.YtipljcmmokaokaaGreat
open Go.RowKit Go.Lib Go.Maps Go.WideMaps Go.Sort
set_option maxRecDepth 100000
namespace X
def opened (s:J.St) (chs:List J.cd) (now:List (B×B)):J.St:={s with opn:=true,spoilt:=false,changes:=chs,size:=13+(J.encs chs).length,was:=s.now,now:=now}
theorem rz (s:J.St):J.cW s=opened s [] s.now:=rfl
theorem lN (s:J.St) (chs:List J.cd) (now:List (B×B)) (c:J.cd) (h:13+(J.encs chs).length+c.len<=4194304):J.add (opened s chs now) c=(opened s (chs++[c]) (if c.gone then J.del now c.key else J.ins now c.key c.val),0):=by
 unfold J.add;rw[if_neg (by show¬4194304 - (13+(J.encs chs).length)<c.len;omega)];unfold J.apply opened;have e:13+(J.encs (chs++[c])).length=13+(J.encs chs).length+c.len:=by
  rw[J.gK,J.dw];simp[J.encs];omega
 rw[e]
structure mL (u:Nat) (now:List (B×B)) (s:J.St):Prop where
 opn:s.opn=false
 ar:s.area=0
 now:s.now=now
 base:s.base=J.Zf
 inv:J.Inv True s
 wr:∀x∈s.writes,x.kind=0/\x.idx=0/\20<=x.bs.length
 h0:s.disk.h0=[]
 h1:s.disk.h1=[]
 sum:s.logged=(s.writes.map λw=>w.bs.length).sum
 log:s.logged<=12000*u
 a0:s.disk.a0.length<=12000*u
 cm:s.commits=s.writes.length
 cu:s.commits<=u
 many:s.now.length<=8*u+2
theorem mL.mono {u v:Nat} {now:List (B×B)} {s:J.St} (h:mL u now s) (a:u<=v):mL v now s:=
 ⟨h.opn,h.ar,h.now,h.base,h.inv,h.wr,h.h0,h.h1,h.sum,aw h.log (Nat.mul_le_mul_left _ a),aw h.a0 (Nat.mul_le_mul_left _ a),h.cm,aw h.cu a,by have:=h.many;omega⟩
theorem Uy:mL 0 [] J.new:=
 ⟨rfl,rfl,rfl,rfl,J.Jf True,(λx h=>by cases h),rfl,rfl,rfl,aq _,aq _,rfl,aq _,Nat.zero_le _⟩
theorem mL.two {u:Nat} {now:List (B×B)} {s:J.St} (h:mL u now s):J.Two s:=
 ⟨λx a=>by have:=(h.wr x a).2.2;omega,by rw[h.h0];decide,by rw[h.h1];decide⟩
theorem mL.wok {u:Nat} {now:List (B×B)} {s:J.St} (h:mL u now s):J.WOk s:=
 ⟨h.sum,λw a=>by obtain⟨h1,b,c⟩:=h.wr w a;exact⟨by omega,by omega,λ_=>by omega⟩,by rw[h.base];decide,by rw[h.base];decide,by rw[h.base];decide,by rw[h.base];decide⟩
theorem mL.len {u:Nat} {now:List (B×B)} {s:J.St} (h:mL u now s) {k l:B} (a:J.look s.now k=some l):l.length<=8192:=by
 have b:=h.inv.fit;revert a;generalize s.now=m at b;intro a
 induction m with
 |nil=>cases a
 |cons p t d=>
  unfold J.look at a;split at a
  ·injection a with a;subst a;exact(b p af).2.2
  ·exact d (λq c=>b q (ag _ c)) a
theorem PR {m:List (B×B)} (a:J.om m):(J.encs (J.values m)).length<=8499*m.length:=by
 induction m with
 |nil=>exact Nat.zero_le _
 |cons p t c=>
  have h1:=c (λq b=>a q (ag _ b));obtain⟨_,d,e⟩:=a p af;rw[J.gL,J.dw];simp only[J.cd.len,List.length_cons,Bool.false_eq_true,if_false];omega
structure Tx (u:Nat) (s s1:J.St) (now:List (B×B)):Prop where
 opn:s1.opn=true
 sp:s1.spoilt=false
 cs:wJ s1 s1.was
 cm:s1.commits+1<4294967296
 ar:s1.area<=1
 fit:(s1.disk.area s1.area).length+(J.record 0 (s1.commits+1) s1.changes).length<=4194304
 com:J.dz s1=(J.aK s1,(s1.commits:Int)+1,0)
 sto:mL (u+1) now (J.aK s1)
 wr:(J.aK s1).writes.length=s.writes.length+1
 hist:∀b states at_,J.ln True s b states at_->J.ln True (J.aK s1) b (states++[now]) (at_++[s.writes.length+1])
theorem Yg {u:Nat} {old now:List (B×B)} {s:J.St} (h:mL u old s) (t:u<=340) (chs:List J.cd) (d:J.Inv True (opened s chs now)) (hh:∀b states at_,J.ln True s b states at_->J.ln True (opened s chs now) b states at_) (q:7<=(J.encs chs).length/\(J.encs chs).length<=11900) (i:now.length<=8*(u+1)+2):Tx u s (opened s chs now) now:=by
 have n:=h.a0;have r:=h.log;have k:(J.record 0 (s.commits+1) chs).length=13+(J.encs chs).length:=J.ei _ _ _;have f:s.disk.area s.area=s.disk.a0:=by rw[h.ar];rfl
 have c:(s.disk.area s.area).length+(J.record 0 (s.commits+1) chs).length<=4194304:=by rw[f,k];omega
 have o:=h.cu;obtain⟨l,v,e⟩:=J.oB (b:=0) (states:=[]) (at_:=[]) d trivial rfl (show(s.disk.area s.area).length+(J.record 0 (s.commits+1) chs).length<=8388608 by omega) (show s.commits+1<4294967296 by omega) (show(J.encs chs).length<4294967296 by omega);refine⟨rfl,rfl,⟨?_, ?_, ?_⟩, ?_, ?_,c, ?_,⟨rfl,h.ar,rfl,h.base,l, ?_, ?_, ?_, ?_, ?_, ?_, ?_, ?_,i⟩, ?_, ?_⟩
 ·show(J.encs (J.values s.now)).length<=_;have:=PR h.inv.fit;have m:=h.many;omega
 ·show s.commits<_;omega
 ·intro p j;have:=(h.inv.fit p j).2.1;unfold maxLen;omega
 ·show s.commits+1<_;omega
 ·show s.area<=1;rw[h.ar];omega
 ·rw[pM (s:=opened s chs now) rfl rfl rfl rfl c];unfold J.ir;have e1:J.fits (opened s chs now) (J.record 0 ((opened s chs now).commits+1) (opened s chs now).changes)=true:=decide_eq_true c;have e2:decide ((J.record 0 ((opened s chs now).commits+1) (opened s chs now).changes).length<=16777216 - (opened s chs now).logged)=true:=decide_eq_true (show(J.record 0 (s.commits+1) chs).length<=16777216 - s.logged by omega);rw[e1,e2];rfl
 ·intro x a;have a:x∈s.writes++[(⟨0,s.area,J.record 0 (s.commits+1) chs⟩:J.Wr)]:=a;rcases List.mem_append.1 a with a|a
  ·exact h.wr x a
  ·simp only[List.mem_singleton]at a;subst a;exact⟨rfl,h.ar,by show 20<=(J.record 0 (s.commits+1) chs).length;omega⟩
 ·show(J.done s.disk ⟨0,s.area,_⟩ _).h0=[];unfold J.done J.cS.bC;rw[if_pos rfl,h.ar];exact h.h0
 ·show(J.done s.disk ⟨0,s.area,_⟩ _).h1=[];unfold J.done J.cS.bC;rw[if_pos rfl,h.ar];exact h.h1
 ·show s.logged+(J.record 0 (s.commits+1) chs).length=((s.writes++[(⟨0,s.area,J.record 0 (s.commits+1) chs⟩:J.Wr)]).map λw:J.Wr=>w.bs.length).sum;rw[h.sum];simp
 ·show s.logged+(J.record 0 (s.commits+1) chs).length<=_;omega
 ·show(J.done s.disk ⟨0,s.area,J.record 0 (s.commits+1) chs⟩ (J.record 0 (s.commits+1) chs).length).a0.length<=_;unfold J.done J.cS.bC;rw[if_pos rfl,h.ar];show(s.disk.a0++(J.record 0 (s.commits+1) chs).take _).length<=_;rw[List.length_append,List.length_take];omega
 ·show s.commits+1=(s.writes++[_]).length;rw[h.cm];simp
 ·show s.commits+1<=_;omega
 ·show(s.writes++[_]).length=_;simp
 ·intro b states at_ g;obtain⟨_,_,e⟩:=J.oB (b:=b) (states:=states) (at_:=at_) d trivial rfl (show(s.disk.area s.area).length+(J.record 0 (s.commits+1) chs).length<=8388608 by omega) (show s.commits+1<4294967296 by omega) (show(J.encs chs).length<4294967296 by omega);exact e (hh _ _ _ g)
section
variable {u : Nat} {s : J.St} {old : List (B × B)}
theorem lO (h:mL u old s):J.Inv True (opened s [] s.now):=(J.yK h.inv h.opn).1
theorem rA {chs:List J.cd} {now:List (B×B)} (h:J.Inv True (opened s chs now)) (c:J.cd) (a:c.Fit) (b:c.gone=true->J.look now c.key≠none):J.Inv True (opened s (chs++[c]) (if c.gone then J.del now c.key else J.ins now c.key c.val)):=by
 have:=J.KO h rfl c a b;unfold J.apply at this;have e:13+(J.encs (chs++[c])).length=13+(J.encs chs).length+c.len:=by
  rw[J.gK,J.dw];simp[J.encs];omega
 have e2:opened s (chs++[c]) (if c.gone then J.del now c.key else J.ins now c.key c.val)={(opened s chs now)with changes:=chs++[c],size:=13+(J.encs chs).length+c.len,now:=(if c.gone then J.del now c.key else J.ins now c.key c.val)}:=by
  unfold opened;rw[e]
 rw[e2];exact this
theorem uf (h:mL u old s) (chs:List J.cd) (now:List (B×B)) {b:Nat} {states:List (List (B×B))} {at_:List Nat} (hh:J.ln True s b states at_):J.ln True (opened s chs now) b states at_:=
 hh.same rfl rfl rfl (by unfold J.St.com opened;rw[h.opn];rfl)
def fS (ks:List B):List J.cd:=ks.map λk=>⟨k,[],true⟩
theorem zi (ks:List B) (k:B):fS (ks++[k])=fS ks++[⟨k,[],true⟩]:=by simp[fS]
theorem rB (ks:List B) (n:Nat) (h:∀k∈ks,k.length<=n):(J.encs (fS ks)).length<=(3+n)*ks.length:=by
 induction ks with
 |nil=>exact Nat.zero_le _
 |cons k t b=>
  have h1:=b (λx a=>h x (ag _ a));have c:=h k af;show(J.encs (⟨k,[],true⟩::fS t)).length<=_;rw[J.dw,List.length_cons,Nat.mul_succ];simp only[J.cd.len,if_true];omega
theorem DV {p:B×B} {t:List (B×B)} (h:J.sA (p::t)):J.del (p::t) p.1=t:=by
 unfold J.del;rw[List.filter_cons_of_neg (by simp),List.filter_eq_self.2];intro x a;have:=(List.pairwise_cons.1 h).1 x a;simp only[Bool.not_eq_true',beq_eq_false_iff_ne,ne_eq];intro e;rw[e]at this;exact List.lt_irrefl _ this
theorem LN (p:B×B) (t:List (B×B)):J.look (p::t) p.1=some p.2:=by
 show(if p.1=p.1 then some p.2 else _)=_;rw[if_pos rfl]
theorem zj (h:mL u old s) (ks:List B) (m:List (B×B)) (p:B×B) (b:J.Inv True (opened s (fS ks) (p::m))) (d:(J.encs (fS ks)).length+400<=4000000):
  J.delete (opened s (fS ks) (p::m)) p.1=(opened s (fS (ks++[p.1])) m,0)/\J.Inv True (opened s (fS (ks++[p.1])) m):=by
 have a:=b.fit p af;have ha:J.sA (p::m):=b.asc;have c:J.look (p::m) p.1≠none:=by rw[LN];intro e;cases e
 constructor
 ·unfold J.delete;rw[if_neg (by show¬true=false;decide),if_neg (show¬J.look (opened s (fS ks) (p::m)).now p.1=none from c),lN]
  ·rw[zi];show(opened s _ (J.del (p::m) p.1),(0:Int))=_;rw[DV ha]
  ·have:=a.2.1;simp only[J.cd.len,if_true];omega
 ·have:=rA b ⟨p.1,[],true⟩ ⟨a.1,a.2.1,Nat.zero_le _,λ_=>rfl⟩ (λ_=>c);rw[zi];have e:(if(⟨p.1,[],true⟩:J.cd).gone then J.del (p::m) (⟨p.1,[],true⟩:J.cd).key else J.ins (p::m) (⟨p.1,[],true⟩:J.cd).key (⟨p.1,[],true⟩:J.cd).val)=m:=DV ha;rw[e]at this;exact this
theorem zk (h:mL u old s) (i:u<=340) (ks:List B) (k v:B) (c:J.Inv True (opened s (fS ks) [])) (f:k≠[]) (d:k.length<=300) (j:v.length<=8192) (g:(J.encs (fS ks)).length+7+k.length+v.length<=11900):
  J.add (opened s (fS ks) []) ⟨k,v,false⟩=(opened s (fS ks++[⟨k,v,false⟩]) [(k,v)],0)/\Tx u s (opened s (fS ks++[⟨k,v,false⟩]) [(k,v)]) [(k,v)]:=by
 constructor
 ·rw[lN]
  ·rfl
  ·simp[J.cd.len];omega
 ·refine Yg h i _ (rA c ⟨k,v,false⟩ ⟨f,d,j,λe=>by cases e⟩ (λe=>by cases e)) (λb l a hh=>uf h _ _ hh) ?_ (by simp);rw[J.gK,J.dw];simp[J.encs,J.cd.len];simp[J.encs]at g;omega
end
end X
end Go.Proofs.YtipljcmmokaokaaGreat
namespace Go.Proofs.YtipljcmmokaokaaGreat
open Go.RowKit Go.Lib Go.Maps Go.WideMaps Go.Sort
namespace X
def uN (ks:List Ky) (c:Nat) (b:B) (old:Option Row) (i:Nat):Nat:=match old with
 |some o=>if val ks i o.b=val ks i b then o.t i else c+1
 |none=>c+1
def lQ (ks:List Ky) (c:Nat) (b:B) (old:Option Row):List Nat:=(List.range ks.length).map λi=>if i=0 then 0 else uN ks c b old i
theorem PS (m:M) (b:B) (old:Option Row):m.times b old=lQ m.ks m.time b old:=by
 unfold M.times lQ uN;cases old<;>rfl
theorem nV (ks:List Ky) (c:Nat) (b:B) (old:Option Row) {i:Nat} (a:i<ks.length):Row.t ⟨b,lQ ks c b old⟩ i=if i=0 then 0 else uN ks c b old i:=by
 unfold Row.t lQ;rw[List.getD_eq_getElem?_getD,List.getElem?_map,List.getElem?_range a];rfl
def gw (ks:List Ky) (c:Nat) (rows:List Row) (b:B) (old:Option Row):List Row:=(rows.filter λr=>decide (val ks 0 r.b≠val ks 0 b))++[⟨b,lQ ks c b old⟩]
theorem wT (m:M) (b:B) (old:Option Row):m.put b old={m with rows:=gw m.ks m.time m.rows b old,time:=m.time+1}:=by
 unfold M.put gw;rw[PS]
def iM (ks:List Ky) (rows:List Row) (p:B):List Row:=rows.filter λr=>decide (val ks 0 r.b≠p)
theorem iz {ks:List Ky} {rows:List Row} {p:B} {r:Row}:r∈iM ks rows p↔r∈rows/\val ks 0 r.b≠p:=by
 unfold iM;rw[List.mem_filter];simp
theorem iN {ks:List Ky} {c:Nat} {rows:List Row} {b:B} {old:Option Row} {r:Row}:r∈gw ks c rows b old↔(r∈rows/\val ks 0 r.b≠val ks 0 b)\/r=⟨b,lQ ks c b old⟩:=by
 unfold gw;rw[List.mem_append,List.mem_filter,List.mem_singleton];simp
section
variable {ks : List Ky} {size time : Nat} {rows : List Row} {nm a : B} {c : Nat} {now : List (B × B)} {b : B} {old : Option Row}
theorem aad:∀p v,Pp ks (gw ks c rows b old) p v↔(p=val ks 0 b/\v=b)\/(p≠val ks 0 b/\Pp ks rows p v):=λp v=>by
 constructor
 ·rintro⟨r,f,h1,a⟩;rcases iN.1 f with⟨d,e⟩|rfl
  ·exact .inr ⟨by rw[<-h1];exact e,r,d,h1,a⟩
  ·exact .inl ⟨h1.symm,a.symm⟩
 ·rintro(⟨h1,a⟩|⟨h0,r,h1,a,d⟩)
  ·exact⟨_,iN.2 (.inr rfl),h1.symm,a.symm⟩
  ·exact⟨r,iN.2 (.inl ⟨h1,by rw[a];exact h0⟩),a,d⟩
theorem PT {i:Nat} (h1:1<=i) (e:i<ks.length) (p:B) (t:Nat) (q:B):Ee ks (gw ks c rows b old) i p t q↔(∃r∈rows,val ks 0 r.b≠val ks 0 b/\val ks i r.b=p/\r.t i=t/\val ks 0 r.b=q)\/(val ks i b=p/\uN ks c b old i=t/\val ks 0 b=q):=by
 have f:=nV ks c b old e;rw[if_neg (by omega)]at f;constructor
 ·rintro⟨r,g,e1,e2,e3,_⟩;rcases iN.1 g with⟨a,d⟩|rfl
  ·exact .inl ⟨r,a,d,e1,e2,e3⟩
  ·exact .inr ⟨e1,by rw[<-f];exact e2,e3⟩
 ·rintro(⟨r,a,d,e1,e2,e3⟩|⟨e1,e2,e3⟩)
  ·exact⟨r,iN.2 (.inl ⟨a,d⟩),e1,e2,e3,e⟩
  ·exact⟨_,iN.2 (.inr rfl),e1,by rw[f];exact e2,e3,e⟩
theorem AR {p:B} (a:rows.find? (λr=>decide (val ks 0 r.b=p))=none) {r:Row} (b:r∈rows):val ks 0 r.b≠p:=λe=>by
 have:=List.find?_eq_none.1 a r b;rw[e]at this;simp at this
theorem bI {p:B} {o:Row} (a:rows.find? (λr=>decide (val ks 0 r.b=p))=some o):o∈rows/\val ks 0 o.b=p:=
 ⟨(cU a).1,of_decide_eq_true (cU a).2⟩
theorem Uz (l:aQ ks size time rows) (k:rows.find? (λr=>decide (val ks 0 r.b=val ks 0 b))=old) {i:Nat} (h1:1<=i) (d:i<ks.length) (f:keeps ks i b old=true) (p:B) (t:Nat) (q:B):
  Ee ks (gw ks c rows b old) i p t q↔Ee ks rows i p t q:=by
 rw[PT h1 d];cases old with
 |none=>unfold keeps at f;cases f
 |some o=>
  obtain⟨h,j⟩:=bI k;have g:val ks i o.b=val ks i b:=of_decide_eq_true f;have m:uN ks c b (some o) i=o.t i:=(by unfold uN;dsimp only;rw[if_pos g]);rw[m];constructor
  ·rintro(⟨r,a,n,e1,e2,e3⟩|⟨e1,e2,e3⟩)
   ·exact⟨r,a,e1,e2,e3,d⟩
   ·exact⟨o,h,g.trans e1,e2,j.trans e3,d⟩
  ·rintro⟨r,a,e1,e2,e3,_⟩;by_cases e:val ks 0 r.b=val ks 0 b
   ·have:r=o:=rv l.prim a h (e.trans j.symm);subst this;exact .inr ⟨g.symm.trans e1,e2,e.symm.trans e3⟩
   ·exact .inl ⟨r,a,e,e1,e2,e3⟩
theorem PU {l:List Row} {i:Nat} (h:l.Pairwise λx y=>x.t i≠y.t i) {r s:Row} (a:r∈l) (f:s∈l) (e:r.t i=s.t i):r=s:=by
 induction l with
 |nil=>cases a
 |cons x t g=>
  obtain⟨h1,d⟩:=List.pairwise_cons.1 h;rcases au a with rfl|b<;>rcases au f with rfl|c
  ·rfl
  ·exact absurd e (h1 s c)
  ·exact absurd e.symm (h1 r b)
  ·exact g d b c
theorem PW (j:aQ ks size c rows) (g:rows.find? (λr=>decide (val ks 0 r.b=val ks 0 b))=old) {i:Nat} (h1:1<=i) (f:i<ks.length) (m:keeps ks i b old=false) (p:B) (t:Nat) (q:B):
  Ee ks (gw ks c rows b old) i p t q↔(p=val ks i b/\t=c+1/\q=val ks 0 b)\/(¬(p=val ks i b/\t=c+1)/\Ee ks rows i p t q/\∀o,old=some o->¬(p=val ks i o.b/\t=o.t i)):=by
 rw[PT h1 f];have n:uN ks c b old i=c+1:=by
  unfold uN;cases old with
  |none=>rfl
  |some o=>
   have:val ks i o.b≠val ks i b:=of_decide_eq_false m;dsimp only;rw[if_neg this]
 rw[n];constructor
 ·rintro(⟨r,a,k,e1,e2,e3⟩|⟨e1,e2,e3⟩)
  ·have:=j.tp r a i h1 f;refine .inr ⟨λhh=>by omega,⟨r,a,e1,e2,e3,f⟩,λo d hh=> ?_⟩;subst d;obtain⟨d,h⟩:=bI g;have:r=o:=PU (j.tm i h1 f) a d (e2.trans hh.2);subst this;exact k h
  ·exact .inl ⟨e1.symm,e2.symm,e3.symm⟩
 ·rintro(⟨e1,e2,e3⟩|⟨_,⟨r,a,e1,e2,e3,_⟩,l⟩)
  ·exact .inr ⟨e1.symm,e2.symm,e3.symm⟩
  ·refine .inl ⟨r,a,λe=> ?_,e1,e2,e3⟩;cases old with
   |none=>exact AR g a e
   |some o=>
    obtain⟨d,h⟩:=bI g;have:r=o:=rv j.prim a d (e.trans h.symm);subst this;exact l r rfl ⟨e1.symm,e2.symm⟩
def PX (nm a:B) (ks:List Ky) (c:Nat) (rows:List Row) (b:B) (old:Option Row) (j:Nat) (now:List (B×B)):Prop:=
 fo nm a ks.length (c+1) (lens ks) (Pp ks (gw ks c rows b old)) (λi p t q=>if i<=j then Ee ks (gw ks c rows b old) i p t q else Ee ks rows i p t q) now
theorem GS (b:aQ ks size time rows) {i:Nat} {p:B} {t:Nat} {q:B} (h:Ee ks rows i p t q):p.length=lens ks i:=by
 obtain⟨r,h1,rfl,_,_,a⟩:=h;exact bc (b.fit r h1) a
theorem pN (f:aQ ks size time rows) (e:bt ks size b=true) {i:Nat} {p:B} {t:Nat} {q:B} (h:Ee ks (gw ks c rows b old) i p t q):p.length=lens ks i:=by
 obtain⟨r,h1,rfl,_,_,a⟩:=h;rcases iN.1 h1 with⟨d,_⟩|rfl
 ·exact bc (f.fit r d) a
 ·exact bc e a
theorem LO (h:iF nm a ks rows c now) (e:eC ks size) (f:aQ ks size c rows) (d:bt ks size b=true):
  PX nm a ks c rows b old 0 (J.ins (J.ins now (cK nm) (R.cp (c+1))) (cy nm 0 (val ks 0 b) 0) b):=by
 have h1:=fo.time h (c':=c+1) (by omega);have g:=h1.record (by have:=e.one;omega) (p0:=val ks 0 b) (v0:=b) (bc d (by have:=e.one;omega));refine g.same aad (λi p t q j k=> ?_) (λi p t q hh=> ?_)
 ·rw[if_neg (by omega)]
 ·split at hh
  ·exact pN f d hh
  ·exact GS f hh
theorem AU (a:aQ ks size time rows) (d:bt ks size b=true) {j:Nat}:∀i p t q,(if i<=j then Ee ks (gw ks c rows b old) i p t q else Ee ks rows i p t q)->p.length=lens ks i:=λi p t q hh=>by
 split at hh
 ·exact pN a d hh
 ·exact GS a hh
theorem PY (d:aQ ks size c rows) (f:bt ks size b=true) (g:rows.find? (λr=>decide (val ks 0 r.b=val ks 0 b))=old) {j:Nat} (n:j+1<ks.length) (h:PX nm a ks c rows b old j now) (k:keeps ks (j+1) b old=true):PX nm a ks c rows b old (j+1) now:=by
 refine fo.same h (λ_ _=>Iff.rfl) (λi p t q l m=> ?_) (AU d f);by_cases e:i=j+1
 ·subst e;rw[if_pos (Nat.le_refl _),if_neg (by omega)];exact Uz d g l m k p t q
 ·by_cases e2:i<=j
  ·rw[if_pos e2,if_pos (by omega)]
  ·rw[if_neg e2,if_neg (by omega)]
theorem PZ (n:eC ks size) (g:aQ ks size c rows) (l:c+1<4294967296) (d:bt ks size b=true) (m:rows.find? (λr=>decide (val ks 0 r.b=val ks 0 b))=none) {j:Nat} (f:j+1<ks.length) (h:PX nm a ks c rows b none j now):
  PX nm a ks c rows b none (j+1) (J.ins now (cy nm (j+1) (val ks (j+1) b) (c+1)) (val ks 0 b)):=by
 have k:=fo.entry h (by have:=n.one;omega) (i0:=j+1) ⟨by omega,f⟩ (p0:=val ks (j+1) b) (q0:=val ks 0 b) (t0:=c+1) l (bc d f);refine k.same (λ_ _=>Iff.rfl) (λi p t q u v=> ?_) (AU g d);by_cases e:i=j+1
 ·subst e;rw[if_pos (Nat.le_refl _),if_neg (by omega),PW g m u v rfl];constructor
  ·rintro(⟨e1,e2,e3⟩|⟨e1,e2,_⟩)
   ·exact .inl ⟨rfl,e1,e2,e3⟩
   ·exact .inr ⟨λhh=>e1 ⟨hh.2.1,hh.2.2⟩,e2⟩
  ·rintro(⟨_,e1,e2,e3⟩|⟨e1,e2⟩)
   ·exact .inl ⟨e1,e2,e3⟩
   ·exact .inr ⟨λhh=>e1 ⟨rfl,hh.1,hh.2⟩,e2,λo s=>by cases s⟩
 ·by_cases e2:i<=j
  ·rw[if_pos e2,if_pos (by omega)];exact⟨λhh=> .inr ⟨λx=>e x.1,hh⟩,λhh=>hh.elim (λx=>absurd x.1 e) (λx=>x.2)⟩
  ·rw[if_neg e2,if_neg (by omega)];exact⟨λhh=> .inr ⟨λx=>e x.1,hh⟩,λhh=>hh.elim (λx=>absurd x.1 e) (λx=>x.2)⟩
theorem Qa (m:eC ks size) (g:aQ ks size c rows) (u:c+1<4294967296) (k:bt ks size b=true) {o:Row} (l:rows.find? (λr=>decide (val ks 0 r.b=val ks 0 b))=some o) {j:Nat} (d:j+1<ks.length) (h:PX nm a ks c rows b (some o) j now) (v:keeps ks (j+1) b (some o)=false):
  PX nm a ks c rows b (some o) (j+1) (J.ins (J.del now (aN nm ks (j+1) o)) (cy nm (j+1) (val ks (j+1) b) (c+1)) (val ks 0 b)):=by
 obtain⟨w,A⟩:=bI l;have h1:=fo.Jj h (by have:=m.one;omega) (i0:=j+1) ⟨by omega,d⟩ (val ks (j+1) o.b) (t0:=o.t (j+1)) (g.t32 (by omega) w d);have s:=h1.entry (by have:=m.one;omega) (i0:=j+1) ⟨by omega,d⟩ (p0:=val ks (j+1) b) (q0:=val ks 0 b) (t0:=c+1) u (bc k d);refine s.same (λ_ _=>Iff.rfl) (λi p t q y z=> ?_) (AU g k);by_cases e:i=j+1
 ·subst e;rw[if_pos (Nat.le_refl _),if_neg (by omega),PW g l y z v];constructor
  ·rintro(⟨e1,e2,e3⟩|⟨e1,e2,e3⟩)
   ·exact .inl ⟨rfl,e1,e2,e3⟩
   ·exact .inr ⟨λhh=>e1 ⟨hh.2.1,hh.2.2⟩,λhh=>e3 o rfl ⟨hh.2.1,hh.2.2⟩,e2⟩
  ·rintro(⟨_,e1,e2,e3⟩|⟨e1,e3,e2⟩)
   ·exact .inl ⟨e1,e2,e3⟩
   ·exact .inr ⟨λhh=>e1 ⟨rfl,hh.1,hh.2⟩,e2,λo' f hh=>by injection f with f;subst f;exact e3 ⟨rfl,hh.1,hh.2⟩⟩
 ·have n:∀x:Prop,x↔(i=j+1/\p=val ks (j+1) b/\t=c+1/\q=val ks 0 b)\/¬(i=j+1/\p=val ks (j+1) b/\t=c+1)/\¬(i=j+1/\p=val ks (j+1) o.b/\t=o.t (j+1))/\x:=λx=>
   ⟨λhh=> .inr ⟨λx=>e x.1,λx=>e x.1,hh⟩,λhh=>hh.elim (λx=>absurd x.1 e) (λx=>x.2.2)⟩
  by_cases e2:i<=j
  ·rw[if_pos e2,if_pos (by omega)];exact n _
  ·rw[if_neg e2,if_neg (by omega)];exact n _
theorem UB {j:Nat} (f:ks.length<=j+1) (e:aQ ks size c rows) (d:bt ks size b=true) (h:PX nm a ks c rows b old j now):iF nm a ks (gw ks c rows b old) (c+1) now:=by
 refine fo.same h (λ_ _=>Iff.rfl) (λi p t q g k=> ?_) (λi p t q hh=>pN e d hh);rw[if_pos (by omega)]
theorem AV {j:Nat} (h:PX nm a ks c rows b old j now) (g:aQ ks size c rows) (f:c<4294967296) {i:Nat} (k:j<i) (d:i<ks.length) {r:Row} (e:r∈rows):J.look now (aN nm ks i r)=some (val ks 0 r.b):=by
 have:=(h.alt i (val ks i r.b) (r.t i) (val ks 0 r.b) (by omega) d (g.t32 f e d)).2;rw[if_neg (by omega)]at this;exact this ⟨r,e,rfl,rfl,rfl,d⟩
theorem Qb {j:Nat} (h:PX nm a ks c rows b old j now) (I:ks.length<=256) (l:aQ ks size c rows) (q:c<4294967296) {i:Nat} (z:j<i) (g:i<ks.length) (v:B) (w:v.length=lens ks i):
  keysOf now ⟨(pre nm i++v).toArray⟩=((cn ks i rows).filter λr=>decide (val ks i r.b=v)).map (aN nm ks i):=by
 unfold keysOf;rw[ru];refine lA _ _ (List.Pairwise.filter _ (List.pairwise_map.2 h.asc)) ?_ (λk=> ?_)
 ·rw[List.pairwise_map];refine List.Pairwise.imp_of_mem (λ{x y} F H G=> ?_) (List.Pairwise.filter _ (lD ks i rows (l.CH g)));exact(zU l q g ((bD ks i x rows).1 (List.mem_filter.1 F).1) ((bD ks i y rows).1 (List.mem_filter.1 H).1)).2 G
 ·rw[List.mem_filter];constructor
  ·rintro⟨A,d⟩;refine List.mem_map.2 ?_;obtain⟨⟨n,x⟩,D,rfl⟩:=List.mem_map.1 A;have d:Lib.hasPrefix n (pre nm i++v)=true:=d;have u:=J.eU now n x h.asc D;rcases h.oth n (by rw[u];intro e;cases e)with rfl|rfl|⟨p,rfl⟩|⟨j',p,t,j1,j2,CM,rfl⟩
   ·rw[pE]at d;cases d
   ·rw[vO]at d;cases d
   ·rw[fe (by omega) (by decide) (by omega)]at d;cases d
   ·by_cases s:i=j'
    ·subst s;have o:=(h.alt i p t x j1 j2 CM).1 u;rw[if_neg (by omega)]at o;obtain⟨r,f,e1,e2,e3,_⟩:=o;have m:p.length=lens ks i:=(by rw[<-e1,bc (l.fit r f) g]);rw[dP (by omega),w,<-m,List.take_length]at d;refine⟨r,List.mem_filter.2 ⟨(bD ks i r rows).2 f,by rw[e1];exact d⟩, ?_⟩;show cy nm i (val ks i r.b) (r.t i)=_;rw[e1,e2]
    ·rw[fe (by omega) (by omega) s]at d;cases d
  ·intro C;obtain⟨r,E,rfl⟩:=List.mem_map.1 C;obtain⟨f,hd⟩:=List.mem_filter.1 E;have f:=(bD ks i r rows).1 f;have m:(val ks i r.b).length=lens ks i:=bc (l.fit r f) g;refine⟨List.mem_map.2 ⟨_,J.eI now _ _ (AV h l q z g f),rfl⟩, ?_⟩;show Lib.hasPrefix (cy nm i _ _) _=true;rw[dP (by omega),w,<-m,List.take_length];exact hd
end
end X
namespace X
section
variable {ks : List Ky} {size time : Nat} {rows : List Row} {nm a : B} {c : Nat} {now : List (B × B)} {b : B} {old : Option Row}
theorem Qc (ks:List Ky) (size time:Nat):aQ ks size time []:=
 ⟨λ_ h=>(by cases h),λ_ h=>(by cases h),λ_ h=>(by cases h),λ_ h=>(by cases h),List.Pairwise.nil,λ_ _ _=>List.Pairwise.nil,λ_ _ _ _=>List.Pairwise.nil⟩
theorem DW (h:aQ ks size time rows) {l:List Row} (a:l.Sublist rows):aQ ks size time l:=
 ⟨λr b=>h.fit r (a.subset b),λr b=>h.tl r (a.subset b),λr b=>h.t0 r (a.subset b),λr b=>h.tp r (a.subset b),h.prim.sublist a,λi h1 c=>(h.tm i h1 c).sublist a,λi h1 c d=>(h.nodup i h1 c d).sublist a⟩
theorem LP (h:aQ ks size time rows) {t:Nat} (c:time<=t):aQ ks size t rows:=
 ⟨h.fit,h.tl,h.t0,λr b i h1 a=>⟨(h.tp r b i h1 a).1,aw (h.tp r b i h1 a).2 c⟩,h.prim,h.tm,h.nodup⟩
theorem zl (h:aQ ks size time rows) (p:B):aQ ks size time (iM ks rows p):=DW h List.filter_sublist
def adG (ks:List Ky) (rows:List Row) (b:B) (old:Option Row):Prop:=∀i,1<=i->i<ks.length->(aH ks i).dup=false->keeps ks i b old=false->∀r∈rows,val ks i r.b≠val ks i b
theorem wU (h:aQ ks size c rows) (D:bt ks size b=true) (q:rows.find? (λr=>decide (val ks 0 r.b=val ks 0 b))=old) (w:adG ks rows b old) (h1:1<=ks.length):aQ ks size (c+1) (gw ks c rows b old):=by
 have g:aQ ks size (c+1) (rows.filter λr=>decide (val ks 0 r.b≠val ks 0 b)):=LP (DW h List.filter_sublist) (Nat.le_succ c);have p:∀r∈rows.filter (λr=>decide (val ks 0 r.b≠val ks 0 b)),r∈rows/\val ks 0 r.b≠val ks 0 b:=λr a=>by
  have:=List.mem_filter.1 a
  simpa using this
 have B:∀i,1<=i->i<ks.length->1<=uN ks c b old i/\uN ks c b old i<=c+1:=λi f d=>by
  unfold uN;cases old with
  |none=>exact⟨by show 1<=c+1;omega,aq _⟩
  |some o=>
   obtain⟨k,_⟩:=bI q;have:=h.tp o k i f d;dsimp only;split<;>omega
 unfold gw;refine⟨λr a=> ?_,λr a=> ?_,λr a=> ?_,λr a i f d=> ?_, ?_,λi f d=> ?_,λi f d v=> ?_⟩
 ·rcases List.mem_append.1 a with a|a
  ·exact g.fit r a
  ·rw[List.mem_singleton.1 a];exact D
 ·rcases List.mem_append.1 a with a|a
  ·exact g.tl r a
  ·rw[List.mem_singleton.1 a];simp[lQ]
 ·rcases List.mem_append.1 a with a|a
  ·exact g.t0 r a
  ·rw[List.mem_singleton.1 a,nV ks c b old (by omega),if_pos rfl]
 ·rcases List.mem_append.1 a with a|a
  ·exact g.tp r a i f d
  ·rw[List.mem_singleton.1 a,nV ks c b old d,if_neg (by omega)];exact B i f d
 ·refine List.pairwise_append.2 ⟨g.prim,List.pairwise_singleton _ _,λx m y n=> ?_⟩;rw[List.mem_singleton.1 n];exact(p x m).2
 ·refine List.pairwise_append.2 ⟨g.tm i f d,List.pairwise_singleton _ _,λx m y n=> ?_⟩;rw[List.mem_singleton.1 n,nV ks c b old d,if_neg (by omega)];obtain⟨j,u⟩:=p x m;have G:=h.tp x j i f d;unfold uN;cases old with
  |none=>dsimp only;omega
  |some o=>
   obtain⟨k,s⟩:=bI q;dsimp only;split
   ·intro e;have:=PU (h.tm i f d) j k e;subst this;exact u s
   ·omega
 ·refine List.pairwise_append.2 ⟨g.nodup i f d v,List.pairwise_singleton _ _,λx m y n=> ?_⟩;rw[List.mem_singleton.1 n];obtain⟨j,u⟩:=p x m;cases hk:keeps ks i b old with
  |false=>exact w i f d v hk x j
  |true=>
   cases old with
   |none=>unfold keeps at hk;cases hk
   |some o=>
    obtain⟨k,s⟩:=bI q;have E:val ks i o.b=val ks i b:=of_decide_eq_true hk;intro e;have:x≠o:=λhh=>by subst hh;exact u s
    have hd:=h.nodup i f d v;have:x=o:=by
     clear g p B w;have e:val ks i x.b=val ks i o.b:=e.trans E.symm;revert j k;generalize rows=l at hd;intro j k
     induction l with
     |nil=>cases j
     |cons z t F=>
      obtain⟨d1,d2⟩:=List.pairwise_cons.1 hd;rcases au j with rfl|C<;>rcases au k with rfl|A
      ·rfl
      ·exact absurd e (d1 o A)
      ·exact absurd e.symm (d1 x C)
      ·exact F d2 C A
    contradiction
theorem pO {m:M} (h:m.dh b old≠[50,50]):adG m.ks m.rows b old:=λi f g d a r c e=>by
 unfold M.dh at h;have:(List.range' 1 (m.ks.length - 1)).any (λi=>m.cT i b old&& !(aH m.ks i).dup)=true:=by
  rw[List.any_eq_true];refine⟨i,by rw[List.mem_range'_1];omega, ?_⟩;unfold M.cT;rw[a,d];have:(m.rows.any λr=>decide (val m.ks i r.b=val m.ks i b))=true:=List.any_eq_true.2 ⟨r,c,decide_eq_true e⟩;rw[this];rfl
 rw[if_pos this]at h;exact h rfl
theorem DX (ks:List Ky) (c:Nat) (rows:List Row) (b:B) (old:Option Row):(gw ks c rows b old).length<=rows.length+1:=by
 unfold gw;rw[List.length_append];have:=List.length_filter_le (λr:Row=>decide (val ks 0 r.b≠val ks 0 b)) rows;simp only[List.length_singleton];omega
theorem zm (ks:List Ky) (rows:List Row) (p:B):(iM ks rows p).length<=rows.length:=List.length_filter_le _ _
end
section
variable {u : Nat} {m : M}
theorem eK (h:fg u m) {wr:B} {l:List Nat} (a:¬bP wr l m.mode≠good):m.there=true:=by
 cases ht:m.there with
 |true=>rfl
 |false=>
  exfalso;apply a;have h0:=(h.none ht).2.1;unfold bP;rw[if_pos h0];decide
theorem fg.dW (h:fg u m):fg (u+1) m.dW:=
 ⟨h.ks,h.rows,h.none,Nat.le_succ_of_le h.many,Nat.le_succ_of_le h.time,h.key,(λe=>by cases e),Nat.le_succ_of_le h.at_,h.mode⟩
theorem fg.take (h:fg u m) {r:Row} (a:r∈m.rows):fg (u+1) (m.take r):=by
 refine⟨h.ks,h.rows,h.none,Nat.le_succ_of_le h.many,Nat.le_succ_of_le h.time,h.key,λ_=> .inr ⟨bc (h.rows.fit r a) h.key,λe=> ?_⟩, ?_,h.mode⟩
 ·show r.t m.key=0;rw[show m.key=0 from e];exact h.rows.t0 r a
 ·show r.t m.key<=u+1;by_cases e:m.key=0
  ·rw[e,h.rows.t0 r a];exact Nat.zero_le _
  ·have:=h.rows.tp r a m.key (by omega) h.key;have:=h.time;omega
theorem fg.keyed (h:fg u m) (b:m.lost=true) {i:Nat} (a:i<m.ks.length):fg u (m.keyed i):=
 ⟨h.ks,h.rows,h.none,h.many,h.time,a,(λe=>by rw[show(m.keyed i).lost=m.lost from rfl,b]at e;cases e),h.at_,h.mode⟩
theorem fg.aG (h:fg u m):fg u m.aG:=⟨h.ks,h.rows,h.none,h.many,h.time,h.key,h.pos,h.at_,h.mode⟩
theorem M.at_mem {r:Row} (h:m.at=some r):r∈m.rows:=(bD _ _ _ _).1 (cU h).1
theorem M.wV {i:Nat} {v:B} {r:Row} (h:m.lF i v=some r):r∈m.rows:=(bD _ _ _ _).1 (cU h).1
theorem Qd (h:fg u m):fg (u+1) m.close.1:=by
 unfold M.close;split
 ·exact h.mono (Nat.le_succ u)
 ·exact⟨h.ks,h.rows,λe=>⟨(h.none e).1,rfl,(h.none e).2.2⟩,Nat.le_succ_of_le h.many,Nat.le_succ_of_le h.time,h.key,h.pos,Nat.le_succ_of_le h.at_,Nat.zero_le _⟩
theorem JK (h:fg u m):fg (u+1) m.next.1:=by
 unfold M.next;split
 ·exact h.mono (Nat.le_succ u)
 ·split
  ·rename_i hl
   exact⟨h.ks,h.rows,h.none,Nat.le_succ_of_le h.many,Nat.le_succ_of_le h.time,h.key,h.pos,Nat.le_succ_of_le h.at_,h.mode⟩
  ·split
   ·rename_i r hr
    exact h.take (M.at_mem hr)
   ·exact h.dW
theorem fg.put (h:fg u m) {b:B} {old:Option Row} (c:bt m.ks m.size b=true) (f:m.find (val m.ks 0 b)=old) (d:m.dh b old≠[50,50]) (a:m.there=true):fg (u+1) (m.put b old):=by
 rw[wT];refine⟨h.ks,wU h.rows c f (pO d) h.ks.one.1,(λe=>by rw[show m.there=false from e]at a;cases a), ?_, ?_,h.key,h.pos,Nat.le_succ_of_le h.at_,h.mode⟩
 ·have:=DX m.ks m.time m.rows b old;have:=h.many;show(gw m.ks m.time m.rows b old).length<=u+1;omega
 ·have:=h.time;show m.time+1<=u+1;omega
theorem dY (h:fg u m):fg (u+1) m.aG:=h.aG.mono (Nat.le_succ u)
theorem Qe (h:fg u m) (b:B):fg (u+1) (m.write b).1:=by
 unfold M.write;split
 ·exact h.mono (Nat.le_succ u)
 ·rename_i hs
  split
  ·exact dY h
  ·rename_i hb
   split
   ·exact dY h
   ·split
    ·exact dY h
    ·rename_i hc
     have c:m.find (val m.ks 0 b)=none:=by
      cases hh:m.find (val m.ks 0 b)with
      |none=>rfl
      |some r=>exact absurd (.inl (by rw[hh];rfl)) hc
     have d:=eK h hs;have a:=fg.put (m:=m.aG) h.aG (b:=b) (old:=none) (show bt m.ks m.size b=true by simpa using hb) c (λe=>hc (.inr e)) d;exact⟨a.ks,a.rows,a.none,a.many,a.time,a.key,a.pos,a.at_,a.mode⟩
theorem GU (h:fg u m) (b:B):fg (u+1) (m.rewrite b).1:=by
 unfold M.rewrite;split
 ·exact h.mono (Nat.le_succ u)
 ·rename_i hs
  split
  ·exact dY h
  ·rename_i hb
   split
   ·exact dY h
   ·split
    ·exact dY h
    ·split
     ·exact dY h
     ·rename_i o ho
      split
      ·exact dY h
      ·rename_i hc
       have a:=eK h hs;exact fg.put (m:=m.aG) h.aG (b:=b) (old:=some o) (show bt m.ks m.size b=true by simpa using hb) ho hc a
theorem fg.gone (h:fg u m) (a:m.there=true) (p:B):fg (u+1) (m.gone p):=by
 refine⟨h.ks,zl h.rows p,(λe=>by rw[show m.there=false from e]at a;cases a), ?_,Nat.le_succ_of_le h.time,h.key,h.pos,Nat.le_succ_of_le h.at_,h.mode⟩;have:=zm m.ks m.rows p;have:=h.many;show(iM m.ks m.rows p).length<=u+1;omega
theorem LQ (h:fg u m) (b:B):fg (u+1) (m.delete b).1:=by
 unfold M.delete;split
 ·exact h.mono (Nat.le_succ u)
 ·rename_i hs
  split
  ·exact dY h
  ·split
   ·exact dY h
   ·split
    ·exact dY h
    ·have a:=eK h hs;exact fg.gone (m:=m.aG) h.aG a _
theorem UC (h:fg u m) (md:Nat) (ord:Bool):fg (u+1) (m.open md ord).1:=by
 unfold M.open;split
 ·exact h.mono (Nat.le_succ u)
 ·rename_i hm
  split
  ·exact h.mono (Nat.le_succ u)
  ·split
   ·exact h.mono (Nat.le_succ u)
   ·unfold M.opened;by_cases e:md=2
    ·subst e;refine⟨h.ks, ?_,(λx=>by cases x), ?_, ?_,h.ks.one.1,λ_=> .inl ⟨rfl,rfl,rfl⟩,Nat.zero_le _,by show 2<=4;decide⟩
     ·exact Qc _ _ _
     ·exact Nat.zero_le _
     ·exact Nat.zero_le _
    ·refine⟨h.ks, ?_,(λx=>by cases x), ?_, ?_,h.ks.one.1,λ_=> .inl ⟨rfl,rfl,rfl⟩,Nat.zero_le _,by show md<=4;omega⟩
     ·show aQ m.ks m.size (if md=2 then 0 else m.time) (if md=2 then []else m.rows);rw[if_neg e,if_neg e];exact h.rows
     ·show(if md=2 then []else m.rows).length<=_;rw[if_neg e];exact Nat.le_succ_of_le h.many
     ·show(if md=2 then 0 else m.time)<=_;rw[if_neg e];exact Nat.le_succ_of_le h.time
theorem M.LR {i r:Nat} {v:B} {x:Row} (h:m.place i r v=some x):x∈m.rows:=by
 unfold M.place at h;split at h
 ·have:=List.mem_of_getLast? h;exact(bD _ _ _ _).1 (List.mem_filter.1 this).1
 ·exact(bD _ _ _ _).1 (cU h).1
theorem Qf (h:fg u m) (k:Int) (r:Nat) (v:B):fg (u+1) (m.start k r v).1:=by
 unfold M.start;split
 ·exact h.mono (Nat.le_succ u)
 ·split
  ·exact h.dW
  ·rename_i a
   split
   ·exact h.dW
   ·rename_i x hx
    have b:=M.LR hx;have a:k.toNat<m.ks.length:=(by omega);have c:=fg.take (h.dW.keyed rfl a) b;refine⟨h.ks,h.rows,h.none,Nat.le_succ_of_le h.many,Nat.le_succ_of_le h.time,a,λ_=> .inr ⟨bc (h.rows.fit x b) a,λe=> ?_⟩, ?_,h.mode⟩
    ·show x.t k.toNat=0;rw[show k.toNat=0 from e];exact h.rows.t0 x b
    ·show x.t k.toNat<=u+1;by_cases e:k.toNat=0
     ·rw[e,h.rows.t0 x b];exact Nat.zero_le _
     ·have:=h.rows.tp x b k.toNat (by omega) a;have:=h.time;omega
end
end X
end Go.Proofs.YtipljcmmokaokaaGreat
namespace Go.Proofs.YtipljcmmokaokaaGreat
open Go.RowKit Go.Lib Go.Maps Go.WideMaps Go.Sort
set_option maxRecDepth 100000
structure Fv where
 mode:Nat
 ord:Bool
 key:Nat
 at_:J.B
 same:Bool
 lost:Bool
 last:J.B
 read:Bool
 written:J.B
abbrev ax (p:Nat) (nm:J.B) (size g n c:Nat) (f:Fv):Obj:=
 .cells #[.pointer (some ⟨p,0,none⟩), .string ⟨nm.toArray⟩, .int .i64 (size:Nat), .slice (some ⟨g,0,none⟩) n c, .int .u8 (f.mode:Nat), .bool f.ord, .int .i64 (f.key:Nat), .string ⟨f.at_.toArray⟩, .bool f.same, .bool f.lost, .string ⟨f.last.toArray⟩, .bool f.read, .string ⟨f.written.toArray⟩] 70 (0,0)
def bR (ok:Obj) (ks:List X.Ky):Prop:=(∃C fr,ok= .cells C 66 fr)/\∀(W:World) (g:Nat),W.heap[g]? =some ok->dJ W g ks
section
variable {w0 : World} {p pf g c size : Nat} {nm : J.B} {ks : List X.Ky} {f : Fv} {w w' : World} {s s1 s2 : J.St} {fs : List (Nat × Obj)} {ok : Obj}
theorem gy (h:w.heap[pf]? =some (ax p nm size g ks.length c f)):
  Calls Tryz.prog 39 #[.pointer (some ⟨pf,0,none⟩)] w λe w'=>e= .returned (.bool true)/\w=w':=by
 have a:=aj w pf h;clear h;go_enter Tryz.func39,Tryz.ntmps39;go_wp2;go_ret;exact⟨rfl,rfl⟩
theorem LS (h:w.heap[pf]? =some (ax p nm size g ks.length c f)):uF w pf:=by
 refine⟨λo u v hh=> ?_,λ⟨_,cur,b,e⟩=> ?_⟩
 ·rw[cell_of_row w pf o _ _ _ h,cell_of_row w pf (o+1) _ _ _ h]at hh;obtain⟨h1,a⟩:=hh;rcases o with _|_|_|_|_|_|_|_|_|_|_|_|_|o<;>simp at h1 a
 ·rw[h]at e;injection e with e;injection e with e1 e2;exact absurd e2 (by decide)
theorem cR {f':Fv} (h:At w0 p ((pf,ax p nm size g ks.length c f)::fs) s w) (a:∀x∈fs,x.1≠pf) (e:J.Two s) (b:w.grownBy w' (some pf)) (d:w'.heap[pf]? =some (ax p nm size g ks.length c f')):At w0 p ((pf,ax p nm size g ks.length c f')::fs) s w':=
 h.turn a e (LS (h.get af)) b d
theorem kN (h:w.heap[pf]? =some (ax p nm size g ks.length c f)):
  Calls Tryz.prog 63 #[.pointer (some ⟨pf,0,none⟩)] w λe w'=>(∃v,e= .returned v)/\w.grownBy w' (some pf)/\w'.heap[pf]? =some (ax p nm size g ks.length c {f with at_:=[],same:=false,lost:=true,read:=false}):=by
 have b:=aj w pf h;have d:=aD h;have a:=ae (ay (ay (ay (ay (World.grownBy.refl w (some pf)) 7 (.string ⟨#[]⟩)) 8 (.bool false)) 9 (.bool true)) 11 (.bool false));have HR:=ae (aB (aB (aB (aB h 7 (.string ⟨#[]⟩)) 8 (.bool false)) 9 (.bool true)) 11 (.bool false));clear h;go_enter Tryz.func63,Tryz.ntmps63;go_wp2;go_end0;exact⟨⟨_,rfl⟩,a.o,HR.o⟩
theorem pP (h:w.heap[pf]? =some (ax p nm size g ks.length c f)) (b:f.mode=0):
  Calls Tryz.prog 17 #[.pointer (some ⟨pf,0,none⟩)] w λe w'=>e= .returned (.string ⟨#[52,50]⟩)/\w=w':=by
 have HR:=ae (gy h);have a:=aj w pf h;rw[b]at a;clear h;go_enter Tryz.func17,Tryz.ntmps17;go_wp2_with fail;refine HR.o.mono ?_;rintro e w1 ⟨rfl,rfl⟩;clear HR;go_wp2;go_ret;exact⟨rfl,rfl⟩
theorem GV (h:w.heap[pf]? =some (ax p nm size g ks.length c f)) (i:0<f.mode):
  Calls Tryz.prog 17 #[.pointer (some ⟨pf,0,none⟩)] w λe w'=>e= .returned (.string ⟨#[48,48]⟩)/\w.grownBy w' (some pf)/\w'.heap[pf]? =some (ax p nm size g ks.length c {f with mode:=0}):=by
 have HR:=ae (gy h);have d:=aj w pf h;have l:=aD h;have b:=ae (ay (World.grownBy.refl w (some pf)) 4 (.int .u8 0));have a:=ae (aB h 4 (.int .u8 0));have k:¬(f.mode:Int)=0:=by omega
 clear h;go_enter Tryz.func17,Tryz.ntmps17;go_wp2_with fail;refine HR.o.mono ?_;rintro e w1 ⟨rfl,rfl⟩;clear HR;go_wp2;go_ret;exact⟨rfl,b.o,a.o⟩
theorem Qg {wr:J.B} {l:List Nat}:X.bP wr l 0=[52,50]:=rfl
theorem aae {wr:J.B} {l:List Nat} {m:Nat} (h0:m≠0) (h:m∈l):X.bP wr l m=[48,48]:=by unfold X.bP;rw[if_neg h0,if_pos h]
theorem UD {wr:J.B} {l:List Nat} {m:Nat} (h0:m≠0) (h:m∉l):X.bP wr l m=wr:=by unfold X.bP;rw[if_neg h0,if_neg h]
theorem GW (h:w.heap[pf]? =some (ax p nm size g ks.length c f)) (m:J.B) (d:Nat) (l:List Nat) (cm:Nat) (o:l.length<=10) (i:∀j (h:j<l.length),w.cell? ⟨d,j,none⟩=some (.int .u8 (l[j]:Nat))):
  Calls Tryz.prog 53 #[.pointer (some ⟨pf,0,none⟩), .string ⟨m.toArray⟩, .slice (some ⟨d,0,none⟩) l.length cm] w λe w'=>e= .returned (.string ⟨(X.bP m l f.mode).toArray⟩)/\w=w':=by
 have HR:=ae (gy h);have a:=ae (LM d cm l f.mode w i o);have n:=aj w pf h;by_cases h0:f.mode=0
 ·rw[h0,Qg];rw[h0]at n;clear h i a;go_enter Tryz.func53,Tryz.ntmps53;go_wp2_with fail;refine HR.o.mono ?_;rintro e w1 ⟨rfl,rfl⟩;clear HR;go_wp2;go_ret;exact⟨rfl,rfl⟩
 ·have h1:¬(f.mode:Int)=0:=(by omega);by_cases b:f.mode∈l
  have k:=trivial
  all_goals
   first
    |have k:=k
     rw[aae h0 b];rw[decide_eq_true b]at a
    |rw[UD h0 b]
     rw[decide_eq_false b]at a
   clear h i;go_enter Tryz.func53,Tryz.ntmps53;go_wp2_with fail;refine HR.o.mono ?_;rintro e w1 ⟨rfl,rfl⟩;clear HR;go_wp2_with fail;refine a.o.mono ?_;rintro e w1 ⟨rfl,rfl⟩;clear a;go_wp2;go_ret;exact⟨rfl,rfl⟩
theorem bQ (h:w.heap[pf]? =some (ax p nm size g ks.length c f)) (a:J.B) (l:List Nat) (n:Nat) (C:Array Value) (d:C=(l.map λ(m:Nat)=>(.int .u8 (m:Nat):Value)).toArray) (q:l.length=n) (k:l.length<=10) (B:Nat) (b:w.heap.size=B):
  Calls Tryz.prog 53 #[.pointer (some ⟨pf,0,none⟩), .string ⟨a.toArray⟩, .slice (some ⟨B,0,none⟩) n n] (w.alloc (.cells C 32)) λe w'=>e= .returned (.string ⟨(X.bP a l f.mode).toArray⟩)/\w.alloc (.cells C 32)=w':=by
 subst d q b;have o:=(ai h).1;refine GW ((((ak _ w).alloc (aq _) _).block pf o).trans h) a _ l l.length k (λj i=> ?_);rw[cell_of_row _ w.heap.size j _ _ _ (heap_alloc_new w _)];simp[i]
theorem zo (h:At w0 p fs s w) (a:(pf,ax p nm size g ks.length c f)∈fs) (n:s.opn=false):
  Calls Tryz.prog 40 #[.pointer (some ⟨pf,0,none⟩)] w λe w'=>e= .returned (.bool true)/\At w0 p fs (J.cM (J.cW s)) w':=by
 have b:=ae (DK h n);have m:=aj w pf (h.get a);have l:=ae a;clear h a;go_enter Tryz.func40,Tryz.ntmps40;go_wp2_with fail;refine b.o.mono ?_;rintro e w1 ⟨rfl,h1⟩;have k:=ae (GK h1 rfl);have o:=aj w1 pf (h1.get l.o);clear h1 m b;go_wp2_with fail;refine k.o.mono ?_;rintro e q ⟨rfl,d⟩;have i:=ae d;clear d;go_wp2;go_ret;exact⟨rfl,i.o⟩
theorem pQ (h:At w0 p fs s w) (d:(pf,ax p nm size g ks.length c f)∈fs) (B:s.opn=false) (g':Nat) (r:Array Value) (D:∀xs w,(callFunc g' xs).run Tryz.prog w= .ok (.enter g' xs) w) (R:J.St->Prop)
  (u:∀w1,At w0 p fs (J.cW s) w1->Calls Tryz.prog g' r w1 λe w'=>(∃v,e= .returned v)/\∃s1,At w0 p fs s1 w'/\R s1)
  (x:∀s1 w1,At w0 p fs s1 w1->R s1->∃n:Int,Calls Tryz.prog 98 #[.pointer (some ⟨p,0,none⟩)] w1 λe w'=>e= .returned (.tuple #[.int .i64 n, .int .i64 0])/\At w0 p fs (J.aK s1) w'):
  Calls Tryz.prog 45 #[.pointer (some ⟨pf,0,none⟩), .func (.func g') #[] r] w λe w'=>e= .returned (.string ⟨#[48,48]⟩)/\∃s1,At w0 p fs (J.aK s1) w'/\R s1:=by
 have k:=ae (DK h B);have z:=aj w pf (h.get d);have m:=ae d;have l:=ae u;have o:=ae x;clear h d u x;go_enter Tryz.func45,Tryz.ntmps45;go_wp2_with fail;refine k.o.mono ?_;rintro e w1 ⟨rfl,h1⟩;have i:=ae h1;clear h1 z k;go_wp2_with fail;refine(l.o _ i.o).mono ?_;rintro e C ⟨⟨v,rfl⟩,s1,a,b⟩;obtain⟨n,y⟩:=o.o _ _ a b;have A:=aj C pf (a.get m.o);have q:=ae y;have HR:=ae b;clear a y l i o m b;go_wp2_with fail;refine q.o.mono ?_;rintro e E ⟨rfl,t⟩;have H3:=ae t;clear t A q;go_wp2;go_ret;exact⟨rfl,s1,H3.o,HR.o⟩
end
section
variable {w0 : World} {p : Nat} {nm : J.B} {w w' : World} {s : J.St} {fs : List (Nat × Obj)}
theorem DY (h:At w0 p fs s w) (nm:J.B) (size:Nat) (A:Option Addr) (n c ct:Nat) (G:ct<4294967296) (y:J.look s.now (X.cK nm)=if 0<ct then some (R.cp ct)else none) (H:nm.length<=100):
  Calls Tryz.prog 107 #[kL nm size (.slice A n c), .pointer (some ⟨p,0,none⟩)] w λe w'=>e= .returned (.int .i64 (ct:Nat))/\At w0 p fs s w'/\Below w.heap.size w w':=by
 have B:Below w.heap.size w (w.alloc (eR nm size (.slice A n c))):=(ak _ w).alloc (aq _) _;have g:=ae B;have m:=ae (gu nm [67] (w.alloc (eR nm size (.slice A n c))) (w.heap.size+1) (by simp) (by omega) (by simp));have e1:nm++0::[67]=X.cK nm:=rfl;rw[e1]at m;have d:=ae (λw1 (f:Below w.heap.size w w1)=>fF (h.below f) (X.cK nm) (by rw[X.sG];omega) (λl hh=>by
  rw[y]at hh;split at hh
  ·injection hh with hh;subst hh;rw[R.dr];omega
  ·cases hh))
 rw[y]at d;clear h y e1 B;by_cases h0:0<ct
 ·rw[if_pos h0]at d;have C:R.zT (R.cp ct)=ct:=R.qJ G;have k:=ae (λw=>PO (UInt8.ofNat (ct/16777216)) (UInt8.ofNat (ct/65536)) (UInt8.ofNat (ct/256)) (UInt8.ofNat ct) [] w);rw[show R.zT [UInt8.ofNat (ct/16777216),UInt8.ofNat (ct/65536),UInt8.ofNat (ct/256),UInt8.ofNat ct]=ct from C]at k;have e2:[UInt8.ofNat (ct/16777216),UInt8.ofNat (ct/65536),UInt8.ofNat (ct/256),UInt8.ofNat ct]=R.cp ct:=rfl;rw[e2]at k;clear C e2;go_enter Tryz.func107,Tryz.ntmps107;go_wp2_with fail;refine m.o.mono ?_;rintro e w1 ⟨rfl,f⟩;have a:Below w.heap.size w w1:=g.o.trans (f.mono g.o.size);have i:=ae a;clear f m g;go_wp2_with fail;refine(d.o _ i.o).mono ?_;rintro e z ⟨v,rfl,b,ha,o⟩;have b:bT z _ v (R.cp ct):=b;obtain⟨D,c2,rfl,u,r⟩:=b.sl.by
  have x:=bL (c:=c2) r;have q:=ae ha;have j:=ae (a.trans (o.mono a.size));rw[R.dr]at x|-;clear b ha o a r u d i;generalize(⟨(R.cp ct).toArray⟩:ByteArray)=T at x k;go_wp2_with fail;refine(k.o _).mono ?_;rintro e I ⟨rfl,t⟩;have E:=ae (q.o.below t);have F:=ae (j.o.trans (t.mono j.o.size));clear t k j q x;go_wp2;go_ret;exact⟨rfl,E.o,F.o⟩
 ·obtain rfl:ct=0:=(by omega);rw[if_neg h0]at d;go_enter Tryz.func107,Tryz.ntmps107;go_wp2_with fail;refine m.o.mono ?_;rintro e w1 ⟨rfl,f⟩;have a:Below w.heap.size w w1:=g.o.trans (f.mono g.o.size);have i:=ae a;clear f m g;go_wp2_with fail;refine(d.o _ i.o).mono ?_;rintro e z ⟨v,rfl,b,ha,o⟩;have b:bT z _ v []:=b;obtain⟨D,c2,rfl,u,r⟩:=b.sl.by
  have q:=ae ha;have j:=ae (a.trans (o.mono a.size));rw[List.length_nil];clear b ha o a r u d i;go_wp2;go_ret;exact⟨rfl,q.o,j.o⟩
theorem Qh (nm:J.B) (x:J.B):Lib.trimPrefix (X.pre nm 0++x) (X.pre nm 0)=x:=by
 unfold Lib.trimPrefix;rw[if_pos (by unfold Lib.hasPrefix;simp)];simp
theorem ug (h:At w0 p fs s w) (nm:J.B) (size:Nat) (A:Option Addr) (n c i:Nat) (x q:J.B) (hi:i<256) (hn:nm.length<=100) (hx:x.length<=800) (hq:q.length<=800) (h0:i=0->x=q) (h1:i≠0->(J.look s.now (X.pre nm i++x)).getD []=q)
  (O:∀l,J.look s.now (X.cy nm 0 q 0)=some l->l.length<=90000000):
  Calls Tryz.prog 109 #[kL nm size (.slice A n c), .pointer (some ⟨p,0,none⟩), .int .i64 (i:Nat), .string ⟨(X.pre nm i++x).toArray⟩] w λe w'=>∃v,e= .returned (.tuple #[v, .string ⟨q.toArray⟩])/\bT w' (· <w.heap.size) v ((J.look s.now (X.cy nm 0 q 0)).getD [])/\At w0 p fs s w'/\Below w.heap.size w w':=by
 have a1:=X.ia nm i;have L:Below w.heap.size w (w.alloc (eR nm size (.slice A n c))):=(ak _ w).alloc (aq _) _;have t:=ae L;have HP:=ae (bU nm size A n c 0 (by decide) (by omega) (w.alloc (eR nm size (.slice A n c))));have g:=ae (λW=>dM nm size A n c 0 0 q (by decide) (by decide) (by omega) (by omega) W);have m:=ae (λw1 (a:Below w.heap.size w w1)=>fF (h.below a) (X.cy nm 0 q 0) (by have:=X.cZ nm 0 q 0;omega) O);have b:=ae (λW=>Tryz.strings_TrimPrefix ⟨(X.pre nm i++x).toArray⟩ ⟨(X.pre nm 0).toArray⟩ W);have H:(⟨(X.pre nm i++x).toArray⟩:ByteArray).data.toList=X.pre nm i++x:=rfl;have I:(⟨(X.pre nm 0).toArray⟩:ByteArray).data.toList=X.pre nm 0:=rfl;rw[H,I]at b;generalize(J.look s.now (X.cy nm 0 q 0)).getD []=R0 at m|-;generalize(J.look s.now (X.cy nm 0 q 0)).isSome=R1 at m;clear O H I L;by_cases C:i=0
 ·subst C;obtain rfl:=h0 rfl;rw[Qh]at b;generalize(⟨(X.pre nm 0++x).toArray⟩:ByteArray)=E at b|-;generalize(⟨(X.pre nm 0).toArray⟩:ByteArray)=P at b HP;generalize(⟨(X.cy nm 0 x 0).toArray⟩:ByteArray)=S at m g;generalize(⟨x.toArray⟩:ByteArray)=V at b g|-;clear h h0 h1;go_enter Tryz.func109,Tryz.ntmps109;go_wp2_with fail;refine HP.o.mono ?_;rintro e w1 ⟨rfl,a⟩;have f:=ae (t.o.trans (a.mono t.o.size));have B:=aj w1 w.heap.size ((a.block w.heap.size (by simp)).trans (heap_alloc_new w _));clear a HP t;go_wp2_with fail;refine(b.o _).mono ?_;rintro e Z ⟨rfl,G⟩;subst G;clear b;go_wp2_with fail;refine(g.o _).mono ?_;rintro e Q ⟨rfl,a⟩;have d:=ae (f.o.trans (a.mono f.o.size));clear a g f B;go_wp2_with fail;refine(m.o _ d.o).mono ?_;rintro e w3 ⟨v,rfl,o,ha,a⟩;have y:=ae ha;have z:=ae (o.weak (M':=(· <w.heap.size)) (λk D=>av D d.o.size));have r:=ae (d.o.trans (a.mono d.o.size));clear o ha a m d;go_wp2;go_ret2;exact⟨_,rfl,z.o,y.o,r.o⟩
 ·have a0:(0:Int)<(i:Nat):=(by omega);have u:=ae (λw1 (a:Below w.heap.size w w1)=>fF (h.below a) (X.pre nm i++x) (by rw[List.length_append];omega) (λl hh=>by have:=h1 C;rw[hh]at this;have this:l=q:=this;subst this;omega));rw[h1 C]at u;generalize(J.look s.now (X.pre nm i++x)).isSome=R2 at u;generalize(⟨(X.pre nm i++x).toArray⟩:ByteArray)=E at b u|-;generalize(⟨(X.pre nm 0).toArray⟩:ByteArray)=P at b HP;generalize(⟨(X.cy nm 0 q 0).toArray⟩:ByteArray)=S at m g;generalize K:(⟨q.toArray⟩:ByteArray)=V at g|-;have U:=ae K;clear h h0 h1 K;go_enter Tryz.func109,Tryz.ntmps109;go_wp2_with fail;refine HP.o.mono ?_;rintro e w1 ⟨rfl,a⟩;have f:=ae (t.o.trans (a.mono t.o.size));have F:=(a.block w.heap.size (by simp)).trans (heap_alloc_new w (eR nm size (.slice A n c)));clear a HP t;go_wp2_with fail;refine(b.o _).mono ?_;rintro e Z ⟨rfl,G⟩;subst G;clear b;go_wp2_with fail;refine(u.o _ f.o).mono ?_;rintro e Q ⟨v1,rfl,o,ha,a⟩;obtain⟨A2,c2,rfl,Y,M⟩:=o.sl.by
  have N:=bL (c:=c2) M;have B:=aj Q w.heap.size ((a.block w.heap.size (ai F).1).trans F);have d:=ae (f.o.trans (a.mono f.o.size));rw[U.o]at N;clear o ha a u f F M Y;go_wp2_with fail;refine(g.o _).mono ?_;rintro e w3 ⟨rfl,a⟩;have r:=ae (d.o.trans (a.mono d.o.size));clear a g d B N;go_wp2_with fail;refine(m.o _ r.o).mono ?_;rintro e w4 ⟨v,rfl,o,ha,a⟩;have y:=ae ha;have z:=ae (o.weak (M':=(· <w.heap.size)) (λk D=>av D r.o.size));have T:=ae (r.o.trans (a.mono r.o.size));clear o ha a m r;go_wp2;go_ret2;exact⟨_,rfl,z.o,y.o,T.o⟩
end
structure XF (nm:J.B) (size:Nat) (ks:List X.Ky) (rows:List X.Row) (ct:Nat) (now:List (J.B×J.B)):Prop where
 con:X.iF nm (X.attr size ks) ks rows ct now
 rows:X.aQ ks size ct rows
 ks:X.eC ks size
 ct:ct<1000000
 nm1:1<=nm.length
 nm:nm.length<=100
 many:now.length<=100000
 len:∀k l,J.look now k=some l->l.length<=8192
def moreB (ks:List X.Ky) (rows:List X.Row) (i:Nat) (r:X.Row):Bool:=match(X.cn ks i rows).find? (X.mD ks i r ·)with
 |some x=>decide (X.val ks i x.b=X.val ks i r.b)
 |none=>false
def gZ (ks:List X.Ky) (rows:List X.Row) (i:Nat) (r:X.Row):J.B:=if 0<i/\moreB ks rows i r=true then [48,50]else [48,48]
section
variable {w0 : World} {p pf g c size ct u : Nat} {nm : J.B} {ks : List X.Ky} {rows : List X.Row} {f : Fv} {w w' : World} {s s1 s2 : J.St} {fs : List (Nat × Obj)} {ok : Obj}
theorem XF.lens (h:XF nm size ks rows ct s.now) {i:Nat} (a:i<ks.length):1<=X.lens ks i/\X.lens ks i<=160:=by
 have:=h.ks.key _ (X.aY a);exact⟨this.1,this.2.1⟩
theorem XF.vlen (h:XF nm size ks rows ct s.now) {i:Nat} (a:i<ks.length) {r:X.Row} (b:r∈rows):(X.val ks i r.b).length=X.lens ks i:=X.bc (h.rows.fit r b) a
theorem zq (ks:List X.Ky) (i:Nat) (r:X.Row):∃y:J.B,y.length<=4/\X.tail i (X.val ks i r.b) (r.t i)=X.val ks i r.b++y:=by
 unfold X.tail;split
 ·exact⟨[],by simp,by simp⟩
 ·exact⟨R.cp (r.t i),by rw[R.dr];exact aq _,rfl⟩
theorem jE (h:XF nm size ks rows ct s.now) {i:Nat} (a:i<ks.length) {r:X.Row} (f:r∈rows) (w:World) (b:dJ w g ks):
  Calls Tryz.prog 51 #[kL nm size (.slice (some ⟨g,0,none⟩) ks.length c), .int .i64 (i:Nat), .string ⟨(X.aN nm ks i r).toArray⟩] w λe w'=>e= .returned (.string ⟨(X.val ks i r.b).toArray⟩)/\Below w.heap.size w w':=by
 obtain⟨y,m,e⟩:=zq ks i r;have d:=h.vlen a f;have k:=h.lens a;have j:=h.ks.one;have l:=h.nm;have:=ud nm size g c ks i (X.tail i (X.val ks i r.b) (r.t i)) w b a (by omega) (by omega) (by rw[e,List.length_append];omega) (by rw[e,List.length_append];omega);have e2:(X.tail i (X.val ks i r.b) (r.t i)).take (X.lens ks i)=X.val ks i r.b:=by rw[e,<-d,List.take_left]
 rw[e2]at this;exact this
theorem pR (h:At w0 p fs s w) (a:XF nm size ks rows ct s.now) {i:Nat} (d:i<ks.length) {r:X.Row} (b:r∈rows) (A:Option Addr) (n c:Nat):
  Calls Tryz.prog 109 #[kL nm size (.slice A n c), .pointer (some ⟨p,0,none⟩), .int .i64 (i:Nat), .string ⟨(X.aN nm ks i r).toArray⟩] w λe w'=>∃v,e= .returned (.tuple #[v, .string ⟨(X.val ks 0 r.b).toArray⟩])/\bT w' (· <w.heap.size) v r.b/\At w0 p fs s w'/\Below w.heap.size w w':=by
 obtain⟨y,t,e⟩:=zq ks i r;have k:=a.ks.one;have f:=a.vlen d b;have o:=a.lens d;have m:=a.vlen (i:=0) (by omega) b;have q:=a.lens (i:=0) (by omega);have g:=a.con.ry a.rows b;have:=ug h nm size A n c i (X.tail i (X.val ks i r.b) (r.t i)) (X.val ks 0 r.b) (by omega) a.nm (by rw[e,List.length_append];omega) (by omega) (λe0=>by subst e0;rfl) (λj=>by
  have:=a.con.wQ a.rows (by have:=a.ct;omega) j d b;show(J.look s.now (X.aN nm ks i r)).getD []=_;rw[this];rfl) (λl f=>by have:=a.len _ _ f;omega)
 rw[g]at this;exact this
theorem zr (h:At w0 p ((pf,ax p nm size g ks.length c f)::fs) s w) (hf:∀x∈fs,x.1≠pf) (a9:(g,ok)∈fs) (hO:bR ok ks) (ht:J.Two s) (m:XF nm size ks rows ct s.now) (E:f.key<ks.length) (r:X.Row) (F:r∈rows):
  Calls Tryz.prog 67 #[.pointer (some ⟨pf,0,none⟩), .string ⟨(X.aN nm ks f.key r).toArray⟩] w λe w'=>∃v,e= .returned (.tuple #[v, .string ⟨(gZ ks rows f.key r).toArray⟩])/\bT w' (· <w.heap.size) v r.b/\At w0 p ((pf,ax p nm size g ks.length c {f with at_:=X.aN nm ks f.key r,same:=false,lost:=false,last:=X.val ks 0 r.b,read:=true})::fs) s w':=by
 have h0:=h.get af;have h0:w.heap[pf]? =some (ax p nm size g ks.length c f):=h0;have b5:=(ai h0).1;have hR:=λw1 (d:Below w.heap.size w w1)=>pR (h.below d) m E F (some ⟨g,0,none⟩) ks.length c;have hP:=λW=>bU nm size (some ⟨g,0,none⟩) ks.length c f.key (by have:=m.ks.one;omega) (by have:=m.nm;omega) W;have a7:=λw1 t (hh:At w0 p ((pf,ax p nm size g ks.length c {f with at_:=X.aN nm ks f.key r,same:=false,lost:=false,last:=X.val ks 0 r.b,read:=true})::fs) s w1)=>iL hh ⟨(X.pre nm f.key).toArray⟩ (X.aN nm ks f.key r) t (by have:=m.many;omega);have C:=λw1 (hh:At w0 p ((pf,ax p nm size g ks.length c {f with at_:=X.aN nm ks f.key r,same:=false,lost:=false,last:=X.val ks 0 r.b,read:=true})::fs) s w1)=>a7 w1 false hh;rw[m.con.zg m.ks m.rows (by have:=m.ct;omega) E F]at C;have O:=λx (z:x∈rows) w1 (hk:dJ w1 g ks)=>jE (c:=c) m E z w1 hk;have a8:=O r F;have a:=λw1 (hh:At w0 p ((pf,ax p nm size g ks.length c {f with at_:=X.aN nm ks f.key r,same:=false,lost:=false,last:=X.val ks 0 r.b,read:=true})::fs) s w1)=>hO.2 w1 g (hh.get (ag _ a9));have hF:=λw1 w2 (hh:At w0 p ((pf,ax p nm size g ks.length c f)::fs) s w1) (hg:w1.grownBy w2 (some pf)) (hq:w2.heap[pf]? =some (ax p nm size g ks.length c {f with at_:=X.aN nm ks f.key r,same:=false,lost:=false,last:=X.val ks 0 r.b,read:=true}))=>cR hh hf ht hg hq;have hM:∀x,(X.cn ks f.key rows).find? (X.mD ks f.key r ·)=some x->x∈rows:=λx z=>(X.bD ks f.key x rows).1 (X.cU z).1;obtain⟨f2,D⟩:∃f2:Fv,f2={f with at_:=X.aN nm ks f.key r,same:=false,lost:=false,last:=X.val ks 0 r.b,read:=true}:=⟨_,rfl⟩;have y:f2.key=f.key:=by rw[D]
 rw[<-D]at C a hF|-;have b2:=ae D;have HR:=ae hR;have HP:=ae hP;have L:=ae C;have HV:=ae O;have a4:=ae a8;have Z:=ae a;have Y:=ae hF;have HM:=ae hM;have b3:=ae b5;have H0:=ae h0;have l:gZ ks rows f.key r=if 0<f.key/\moreB ks rows f.key r=true then [48,50]else [48,48]:=rfl;unfold moreB at l;have o:=ae l;generalize gZ ks rows f.key r=ts at o|-;generalize(⟨(X.pre nm f.key).toArray⟩:ByteArray)=P at HP L;clear h hf a9 hO ht m E hR hP a7 C O a8 a hF hM l D F;go_enter Tryz.func67,Tryz.ntmps67;go_upto_region 1 with fail;refine aJ 18 (.rd 0 (.rd 1 (.rd 2 (.rd 3 (.rd 4 (.rd 5 (.rd 6 (.rd 7 (.rd 8 (.rd 9 (.rd 10 (.rd 11 (.rd 12 (.wr 13 (.rd 14 (.rd 15 (.rd 16 (.wr 17 .fin)))))))))))))))))) (λw'=>w'.heap[pf]? =some (ax p nm size g ks.length c f)) h0 ?_;repeat
  refine aA (v:= ?_) (λw' b=> ?_) (λK a=> ?_);rotate_left
  ·have i:=aj w' pf b;clear b;go_simp;try with_reducible rfl
  go_simp;refine a _ ?_;clear a K
 clear h0;refine az (λK a=> ?_);go_simp;refine(HR.o _ ((ak _ w).drew)).mono ?_;rintro e w1 ⟨v,rfl,G,ha,d⟩;have b7:Below w.heap.size w w1:=((ak _ w).drew).trans d;have h1:w1.heap[pf]? =some (ax p nm size g ks.length c f):=ha.get af;refine a.out _ _ (λw'=>w'.heap[pf]? =some (ax p nm size g ks.length c f)) (λ_ h=>h) (ha.get af) ?_;clear a K;repeat
  refine aA (v:= ?_) (λw' b=> ?_) (λK a=> ?_);rotate_left
  ·have i:=aj w' pf b;clear b;go_simp;try with_reducible rfl
  go_simp;refine a _ ?_;clear a K
 refine az (λK a=> ?_);go_simp;refine a.out _ _ (λw'=>w'.heap[pf]? =some (ax p nm size g ks.length c f)) (λ_ h=>h) h1 ?_;clear a K;have G:bT w1 (· <w.heap.size) v r.b:=G;have hz:=aD h1;have i:=aj w1 pf h1;have S:=ay (ay (ay (ay (ay (World.grownBy.refl w1 (some pf)) 7 (.string ⟨(X.aN nm ks f.key r).toArray⟩)) 8 (.bool false)) 9 (.bool false)) 10 (.string ⟨(X.val ks 0 r.b).toArray⟩)) 11 (.bool true);have b0:=aB (aB (aB (aB (aB h1 7 (.string ⟨(X.aN nm ks f.key r).toArray⟩)) 8 (.bool false)) 9 (.bool false)) 10 (.string ⟨(X.val ks 0 r.b).toArray⟩)) 11 (.bool true);have U:=ae (Y.o _ _ ha S (by rw[b2.o];exact b0));have a0:=ae (G.step (Step.bg S (λk e _=>by injection e with e;subst e;exact b3.o):Step _ (· <w.heap.size) _ _));clear S b0 G ha d HR Y;show wpList _ _ _ _ _ _;go_wp2_with fail;clear h1 hz i;refine aL (λu=>At w0 p ((pf,ax p nm size g ks.length c f2)::fs) s u/\bT u (· <w.heap.size) v r.b) ⟨U.o,a0.o⟩ ?_;rintro u ⟨Q,b1⟩;have h5:u.heap[pf]? =some (ax p nm size g ks.length c f2):=Q.get af;have T:=ae Q;have HS:=ae b1;clear U a0 Q b1;refine aJ 8 (.rd 0 (.rd 1 (.rd 2 (.rd 3 (.rd 4 (.rd 5 (.rd 6 (.rd 7 .fin)))))))) (λw'=>w'.heap[pf]? =some (ax p nm size g ks.length c f2)) h5 ?_;repeat
  refine aA (v:= ?_) (λw' b=> ?_) (λK a=> ?_);rotate_left
  ·have i:=aj w' pf b;rw[y]at i;clear b;go_simp;try with_reducible rfl
  go_simp;refine a _ ?_;clear a K
 show wpList _ _ _ _ _ _;go_wp2_with fail;refine(HP.o _).mono ?_;rintro e W6 ⟨rfl,d⟩;have d:Below u.heap.size u W6:=((ak _ u).drew).trans d;have B:=ae (T.o.below d);have a1:=ae (HS.o.step (Step.aC d));have i:=aj W6 pf (B.o.get af);clear d HP T HS h5;go_wp2_with fail;refine(L.o _ B.o).mono ?_;rintro e N ⟨rfl,d⟩;have n:=ae (B.o.below d);have q:=ae (a1.o.step (Step.aC d));clear d i L B a1;by_cases b8:f.key=0
 ·have b4:¬(0:Int)<(f.key:Nat):=(by omega);have l:ts=[48,48]:=(by rw[o.o,if_neg (by omega)]);subst l;clear o;generalize((List.find? (λx=>X.mD ks f.key r x) (X.cn ks f.key rows)).map (X.aN nm ks f.key))=mo;go_wp2_with fail;refine aR (.rd 0 (.rd 1 (.rd 2 (.rd 3 (.rd 4 (.rd 5 (.rd 6 (.rd 7 (.rd 8 (.rd 9 (.rd 10 (.rd 11 (.rd 12 (.rd 13 (.rd 14 (.rd 15 (.rd 16 (.rd 17 (.rd 19 (.rd 20 (.rd 21 (.rd 22 (.rd 23 (.rd 24 (.rd 25 (.rd 26 (.rd 27 (.wr 18 (.wr 28 (.rd 29 (.rd 30 .fin))))))))))))))))))))))))))))))) (λw'=>At w0 p ((pf,ax p nm size g ks.length c f2)::fs) s w'/\bT w' (· <w.heap.size) v r.b) ⟨n.o.below ((ak _ _).drew),q.o.step (Step.aC ((ak _ _).drew))⟩ ?_;repeat
   first
    |refine aA (v:= ?_) (λw' b=> ?_) (λK a=> ?_)
     rotate_left
     ·have i:=aj w' pf (b.1.get af);rw[y]at i;clear b;go_simp;try with_reducible rfl
     go_simp;refine a _ ?_;clear a K
    |refine aF (λK a=> ?_)
     go_simp;refine a _ ?_;clear a K
  iterate 2
   refine az (λK a=> ?_);go_simp;refine a.out _ _ (λw'=>At w0 p ((pf,ax p nm size g ks.length c f2)::fs) s w'/\bT w' (· <w.heap.size) v r.b) (λ_ h=>h) ⟨n.o.below ((ak _ _).drew),q.o.step (Step.aC ((ak _ _).drew))⟩ ?_;clear a K
  repeat
   first
    |refine aA (v:= ?_) (λw' b=> ?_) (λK a=> ?_)
     rotate_left
     ·have i:=aj w' pf (b.1.get af);rw[y]at i;clear b;go_simp;try with_reducible rfl
     go_simp;refine a _ ?_;clear a K
    |refine aF (λK a=> ?_)
     go_simp;refine a _ ?_;clear a K
  show wpList _ _ _ _ _ _;go_wp2;go_ret2;exact⟨_,rfl,q.o.step (Step.aC ((ak _ _).drew)),n.o.below ((ak _ _).drew)⟩
 ·have b4:(0:Int)<(f.key:Nat):=(by omega);have b9:0<f.key:=(by omega);cases Qi:(X.cn ks f.key rows).find? (X.mD ks f.key r ·)with
   |none=>
    rw[Qi]at o;have l:ts=[48,48]:=(by rw[o.o,if_neg (λh=>by cases h.2)]);subst l;clear o Qi;go_wp2_with fail;refine aR (.rd 0 (.rd 1 (.rd 2 (.rd 3 (.rd 4 (.rd 5 (.rd 6 (.rd 7 (.rd 8 (.rd 9 (.rd 10 (.rd 11 (.rd 12 (.rd 13 (.rd 14 (.rd 15 (.rd 16 (.rd 17 (.rd 19 (.rd 20 (.rd 21 (.rd 22 (.rd 23 (.rd 24 (.rd 25 (.rd 26 (.rd 27 (.wr 18 (.wr 28 (.rd 29 (.rd 30 .fin))))))))))))))))))))))))))))))) (λw'=>At w0 p ((pf,ax p nm size g ks.length c f2)::fs) s w'/\bT w' (· <w.heap.size) v r.b) ⟨n.o.below ((ak _ _).drew),q.o.step (Step.aC ((ak _ _).drew))⟩ ?_;repeat
     first
      |refine aA (v:= ?_) (λw' b=> ?_) (λK a=> ?_)
       rotate_left
       ·have i:=aj w' pf (b.1.get af);rw[y]at i;clear b;go_simp;try with_reducible rfl
       go_simp;refine a _ ?_;clear a K
      |refine aF (λK a=> ?_)
       go_simp;refine a _ ?_;clear a K
    iterate 2
     refine az (λK a=> ?_);go_simp;refine a.out _ _ (λw'=>At w0 p ((pf,ax p nm size g ks.length c f2)::fs) s w'/\bT w' (· <w.heap.size) v r.b) (λ_ h=>h) ⟨n.o.below ((ak _ _).drew),q.o.step (Step.aC ((ak _ _).drew))⟩ ?_;clear a K
    repeat
     first
      |refine aA (v:= ?_) (λw' b=> ?_) (λK a=> ?_)
       rotate_left
       ·have i:=aj w' pf (b.1.get af);rw[y]at i;clear b;go_simp;try with_reducible rfl
       go_simp;refine a _ ?_;clear a K
      |refine aF (λK a=> ?_)
       go_simp;refine a _ ?_;clear a K
    show wpList _ _ _ _ _ _;go_wp2;go_ret2;exact⟨_,rfl,q.o.step (Step.aC ((ak _ _).drew)),n.o.below ((ak _ _).drew)⟩
   |some x=>
    rw[Qi]at o;have z:=HM.o x Qi;have a5:=ae (HV.o x z);have l:ts=if X.val ks f.key x.b=X.val ks f.key r.b then [48,50]else [48,48]:=by
     rw[o.o];by_cases e:X.val ks f.key x.b=X.val ks f.key r.b
     ·rw[if_pos ⟨by omega,decide_eq_true e⟩,if_pos e]
     ·rw[if_neg (λh=>e (of_decide_eq_true h.2)),if_neg e]
    have H:=dt (X.val ks f.key x.b) (X.val ks f.key r.b);have M:=ae l;clear o Qi z l HV HM;generalize(⟨(X.val ks f.key x.b).toArray⟩:ByteArray)=vx at H a5;generalize b6:(⟨(X.val ks f.key r.b).toArray⟩:ByteArray)=vr at H a4;clear b6;by_cases A:X.val ks f.key x.b=X.val ks f.key r.b
    have a6:=trivial
    all_goals
     first
      |have a6:=a6
       rw[decide_eq_true A]at H;have l:ts=[48,50]:=by rw[M.o,if_pos A]
       skip
      |rw[decide_eq_false A]at H
       have l:ts=[48,48]:=by rw[M.o,if_neg A]
     subst l;clear M A;go_wp2_with fail;refine aR (.rd 0 (.rd 1 (.rd 2 (.rd 3 (.rd 4 (.rd 5 (.rd 6 (.rd 7 (.rd 8 (.rd 9 (.rd 10 (.rd 11 (.rd 12 (.rd 13 (.rd 14 (.rd 15 (.rd 16 (.rd 17 (.rd 19 (.rd 20 (.rd 21 (.rd 22 (.rd 23 (.rd 24 (.rd 25 (.rd 26 (.rd 27 (.wr 18 (.wr 28 (.rd 29 (.rd 30 .fin))))))))))))))))))))))))))))))) (λw'=>At w0 p ((pf,ax p nm size g ks.length c f2)::fs) s w'/\bT w' (· <w.heap.size) v r.b) ⟨n.o.below ((ak _ _).drew),q.o.step (Step.aC ((ak _ _).drew))⟩ ?_;repeat
      first
       |refine aA (v:= ?_) (λw' b=> ?_) (λK a=> ?_)
        rotate_left
        ·have i:=aj w' pf (b.1.get af);rw[y]at i;clear b;go_simp;try with_reducible rfl
        go_simp;refine a _ ?_;clear a K
       |refine aF (λK a=> ?_)
        go_simp;refine a _ ?_;clear a K
     refine az (λK a=> ?_);go_simp;refine(a5.o _ (Z.o _ (n.o.below ((ak _ _).drew)))).mono ?_;rintro e W8 ⟨rfl,d⟩;have d:Below N.heap.size N W8:=((ak _ N).drew).trans d;have I:=ae (n.o.below d);have a2:=ae (q.o.step (Step.aC d));refine a.out _ _ (λw'=>At w0 p ((pf,ax p nm size g ks.length c f2)::fs) s w'/\bT w' (· <w.heap.size) v r.b) (λ_ h=>h) ⟨I.o,a2.o⟩ ?_;clear a K d;refine az (λK a=> ?_);go_simp;refine(a4.o _ (Z.o _ I.o)).mono ?_;rintro e W9 ⟨rfl,d⟩;have V:=ae (I.o.below d);have a3:=ae (a2.o.step (Step.aC d));refine a.out _ _ (λw'=>At w0 p ((pf,ax p nm size g ks.length c f2)::fs) s w'/\bT w' (· <w.heap.size) v r.b) (λ_ h=>h) ⟨V.o,a3.o⟩ ?_;clear a K d;repeat
      first
       |refine aA (v:= ?_) (λw' b=> ?_) (λK a=> ?_)
        rotate_left
        ·have i:=aj w' pf (b.1.get af);rw[y]at i;clear b;go_simp;try with_reducible rfl
        go_simp;refine a _ ?_;clear a K
       |refine aF (λK a=> ?_)
        go_simp;refine a _ ?_;clear a K
     show wpList _ _ _ _ _ _;go_wp2;go_ret2;exact⟨_,rfl,a3.o,V.o⟩
end
end Go.Proofs.YtipljcmmokaokaaGreat
