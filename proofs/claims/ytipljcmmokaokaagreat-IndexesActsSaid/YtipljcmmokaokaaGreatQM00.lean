
set_option linter.unusedVariables false
set_option linter.unusedSimpArgs false
namespace Go.Proofs.YtipljcmmokaokaaGreat
namespace J
abbrev B:=List UInt8
def leB:Nat→Nat→B
 |_,0=>[]
 |n,k+1=>UInt8.ofNat n::leB (n/256) k
def jr:B→Nat
 |[]=>0
 |b::l=>b.toNat+256*jr l
theorem dO:∀(k n:Nat),(leB n k).length=k
 |0,_=>rfl
 |k+1,n=>by simp[leB,dO k]
theorem EX:∀(k n:Nat),jr (leB n k)=n%256^k
 |0,n=>by simp[leB,jr,Nat.mod_one]
 |k+1,n=>by
  have ih:=EX k (n/256);simp only[leB,jr,ih,UInt8.toNat_ofNat'];have:n%256^(k+1)=n%256+256*(n/256%256^k):=by
   rw[Nat.pow_succ,Nat.mul_comm (256^k) 256,Nat.mod_mul]
  rw[this]
theorem JO:∀(l:B),jr l<256^l.length
 |[]=>by simp[jr]
 |b::l=>by
  have ih:=JO l;have hb:=b.toNat_lt;simp only[jr,List.length_cons,Nat.pow_succ];omega
theorem zy:∀(k n:Nat),leB n (k+1)=leB n k++[UInt8.ofNat (n/256^k)]
 |0,n=>by simp[leB]
 |k+1,n=>by
  have ih:=zy k (n/256);show UInt8.ofNat n::leB (n/256) (k+1)=_;rw[ih,Nat.div_div_eq_div_mul,show 256*256^k=256^(k+1) by rw[Nat.pow_succ,Nat.mul_comm]];rfl
def mi (s:Nat) (x:UInt8):Nat:=((s^^^x.toNat)*16777619)%4294967296
def bM (l:B):Nat:=l.foldl mi 2166136261
theorem JP (l:B) (x:UInt8):bM (l++[x])=mi (bM l) x:=by
 unfold bM;rw[List.foldl_append,List.foldl_cons,List.foldl_nil]
theorem CB (s:Nat) (x:UInt8):mi s x<4294967296:=by unfold mi;omega
theorem EY:∀(l:B) (s:Nat),s<4294967296→l.foldl mi s<4294967296
 |[],_,h=>h
 |x::t,s,_=>EY t _ (CB s x)
theorem CC (l:B):bM l<4294967296:=EY l 2166136261 (by omega)
structure bZ where
 key:B
 val:B
 gone:Bool
structure eF where
 h0:B
 h1:B
 a0:B
 a1:B
structure Wr where
 kind:Nat
 idx:Nat
 bs:B
structure St where
 opn:Bool
 now:List (B×B)
 changes:List bZ
 size:Nat
 spoilt:Bool
 was:List (B×B)
 commits:Nat
 gen:Nat
 area:Nat
 side:Nat
 base:eF
 disk:eF
 writes:List Wr
 logged:Nat
def Ta:eF:=⟨[],[],[],[]⟩
def new:St:=⟨false,[],[],0,false,[],0,0,0,1,Ta,Ta,[],0⟩
def look:List (B×B)→B→Option B
 |[],_=>none
 |p::t,k=>if p.1=k then some p.2 else look t k
def del (l:List (B×B)) (k:B):List (B×B):=l.filter λp=> !(p.1==k)
def ins (l:List (B×B)) (k v:B):List (B×B):=(del l k).takeWhile (λp=>decide (p.1<k))++(k,v)::(del l k).dropWhile (λp=>decide (p.1<k))
def bZ.len (c:bZ):Nat:=3+c.key.length+if c.gone then 0 else 4+c.val.length
def bZ.enc (c:bZ):B:=if c.gone then 0::leB c.key.length 2++c.key else 1::leB c.key.length 2++c.key++leB c.val.length 4++c.val
def encs (l:List bZ):B:=l.flatMap bZ.enc
def body (kind number:Nat) (l:List bZ):B:=UInt8.ofNat kind::leB number 4++leB (encs l).length 4++encs l
def record (kind number:Nat) (l:List bZ):B:=body kind number l++leB (bM (body kind number l)) 4
def eF.area (m:eF) (i:Nat):B:=if i=0 then m.a0 else m.a1
def eF.head (m:eF) (i:Nat):B:=if i=0 then m.h0 else m.h1
def eF.bN (m:eF) (i:Nat) (b:B):eF:=if i=0 then {m with a0:=b}else {m with a1:=b}
def eF.xz (m:eF) (i:Nat) (b:B):eF:=if i=0 then {m with h0:=b}else {m with h1:=b}
def done (m:eF) (w:Wr) (many:Nat):eF:=
 if w.kind=0 then m.bN w.idx (m.area w.idx++w.bs.take many)
 else if w.kind=1 then m.bN w.idx []
 else m.xz w.idx (w.bs.take many++(m.head w.idx).drop many)
def write (s:St) (w:Wr):St:={s with writes:=s.writes++[w],logged:=s.logged+w.bs.length,disk:=done s.disk w w.bs.length}
def values (l:List (B×B)):List bZ:=l.map λp=>⟨p.1,p.2,false⟩
def apply(s:St) (c:bZ):St:={s with now:=if c.gone then del s.now c.key else ins s.now c.key c.val}
def cM (s:St):St:={s with opn:=true,spoilt:=false,changes:=[],size:=13,was:=s.now}
def add (s:St) (c:bZ):St×Int:=
 if 4194304 - s.size<c.len then({s with spoilt:=true},9)else(apply {s with changes:=s.changes++[c],size:=s.size+c.len} c,0)
def put (s:St) (k v:B):St×Int:=
 if s.opn=false then(s,6)else if k=[]∨300<k.length then(s,1)else if 8192<v.length then(s,3)else add s ⟨k,v,false⟩
def delete (s:St) (k:B):St×Int:=
 if s.opn=false then(s,6)else if look s.now k=none then(s,7)else add s ⟨k,[],true⟩
def cA (s:St):St:={s with opn:=false,changes:=[],now:=s.was,was:=[]}
def latest:Nat:=4611686018427387904
def part (gen area:Nat):B:=leB gen 8++leB area 4
def Gi (s:St) (now:List (B×B)):St:=
 let s1:=write s ⟨1,1 - s.area,[]⟩;let s2:=write s1 ⟨0,1 - s.area,record 1 s.commits (values now)⟩;let s3:=write {s2 with side:=1 - s.side} ⟨2,1 - s.side,part (s.gen+1) (1 - s.area)++part (s.gen+1) (1 - s.area)⟩
 {s3 with gen:=s.gen+1,area:=1 - s.area}
def Gj (s:St) (now:List (B×B)):Bool:=
 decide ((record 1 s.commits (values now)).length≤4194304∧s.gen≠latest∧(record 1 s.commits (values now)).length+24≤16777216 - s.logged)
def aL (s:St):St:=
 let s1:=write s ⟨0,s.area,record 0 (s.commits+1) s.changes⟩
 {s1 with commits:=s.commits+1,opn:=false,changes:=[],was:=[]}
def fits (s:St) (b:B):Bool:=decide ((s.disk.area s.area).length+b.length≤4194304)
def ic (s:St):St×Int×Int:=
 if fits s (record 0 (s.commits+1) s.changes)&&decide ((record 0 (s.commits+1) s.changes).length≤16777216 - s.logged)then(aL s,s.commits+1,0)else(s,0,9)
def dh (s:St):St×Int×Int:=
 if s.opn=false then(s,0,6)else if s.spoilt then(s,0,9)
 else if fits s (record 0 (s.commits+1) s.changes)then ic s
 else if Gj s s.was then ic (Gi s s.was)else(s,0,9)
def cV (m:eF) (l:List Wr):eF:=l.foldl (λm w=>done m w w.bs.length) m
def cut (s:St) (writes CD:Int):Option eF:=
 if writes<0∨(s.writes.length:Int)<writes∨CD<0 then none
 else match s.writes[writes.toNat]? with
  |none=>if CD=0 then some (cV s.base s.writes)else none
  |some w=>if(w.bs.length:Int)<CD then none else
    let m:=cV s.base (s.writes.take writes.toNat)
    some (if CD=0 then m else done m w CD.toNat)
def valid (b:B):Option (Nat×Nat):=
 if b.length=24∧b.take 12=b.drop 12∧jr ((b.take 12).drop 8)≤1∧jr (b.take 8)≤latest then some (jr (b.take 8),jr ((b.take 12).drop 8))else none
def oV (b:B):Option (bZ×B):=
 if b.length<3∨1<(b.headD 0).toNat then none
 else
  let n:=jr ((b.take 3).drop 1);let r:=b.drop 3
  if n=0∨300<n∨r.length<n then none
  else if b.headD 0=0 then some (⟨r.take n,[],true⟩,r.drop n)
  else
   let q:=r.drop n
   if q.length<4∨8192<jr (q.take 4)∨q.length - 4<jr (q.take 4)then none
   else some (⟨r.take n,(q.drop 4).take (jr (q.take 4)),false⟩,q.drop (4+jr (q.take 4)))
theorem tP {b:B} {c:bZ} {r:B} (h:oV b=some (c,r)):r.length<b.length:=by
 unfold oV at h;split at h
 ·cases h
 ·dsimp only at h;split at h
  ·cases h
  ·split at h
   ·injection h with h;injection h with _ h;subst h;simp;omega
   ·split at h
    ·cases h
    ·injection h with h;injection h with _ h;subst h;simp;omega
def cp (b:B):Option (List bZ):=
 if b=[]then some []else
  match h:oV b with
  |none=>none
  |some (c,r)=>(cp r).map (c:: ·)
termination_by b.length
decreasing_by exact tP h
def cB:List (B×B)→List bZ→Option (List (B×B))
 |m,[]=>some m
 |m,c::t=>if c.gone then(if look m c.key=none then none else cB (del m c.key) t)else cB (ins m c.key c.val) t
inductive Wq where
 |stop
 |bad (e:Int)
 |took (n commits:Nat) (now:List (B×B))
def take (gen commits:Nat) (now:List (B×B)) (b:B) (first:Bool):Wq:=
 if b.length<9∨b.length - 13<jr ((b.take 9).drop 5)∨b.length<13 then .stop
 else
  let n:=9+jr ((b.take 9).drop 5)
  if bM (b.take n)≠jr ((b.drop n).take 4)then .bad 16
  else
   let number:=jr ((b.take 5).drop 1);let ok:=if first=true∧0<gen then b.headD 0=1 else b.headD 0=0∧number=commits+1
   match cp ((b.take n).drop 9)with
   |none=> .bad 4
   |some l=>if¬ok then .bad 4 else match cB now l with
    |none=> .bad 4
    |some eN=> .took (n+4) number eN
def current (h0 h1:B):Nat×Nat×Nat:=
 match valid h0,valid h1 with
 |none,none=>(0,0,1)
 |some (g,a),none=>(g,a,0)
 |none,some (g,a)=>(g,a,1)
 |some (g,a),some (g',a')=>if g<g' then(g',a',1)else(g,a,0)
end J
namespace J
def ri (m:List (B×B)):Prop:=m.Pairwise λa b=>a.1<b.1
theorem lt_irrefl (a:B):¬a<a:=List.lt_irrefl a
theorem JQ (a b:B) (h1:¬a<b) (h2:a≠b):b<a:=by
 rcases Classical.em (b<a)with h|h
 ·exact h
 ·exact absurd (List.le_antisymm (List.not_lt.1 h) (List.not_lt.1 h1)) h2
theorem dZ:∀(m:List (B×B)) (k v:B),look m k=some v→(k,v)∈m
 |[],k,v,h=>by simp[look]at h
 |p::t,k,v,h=>by
  unfold look at h;by_cases e:p.1=k
  ·rw[if_pos e]at h;injection h with h;subst e h;exact List.mem_cons_self
  ·rw[if_neg e]at h;exact List.mem_cons_of_mem _ (dZ t k v h)
theorem ew:∀(m:List (B×B)) (k v:B),ri m→(k,v)∈m→look m k=some v
 |[],_,_,_,h=>by simp at h
 |p::t,k,v,ha,h=>by
  have ha':=List.pairwise_cons.1 ha;unfold look;rcases List.mem_cons.1 h with h|h
  ·subst h;simp
  ·have:=ha'.1 _ h;have hne:p.1≠k:=(by intro e;rw[e]at this;exact lt_irrefl _ this);rw[if_neg hne];exact ew t k v ha'.2 h
theorem zz (a b:List (B×B)) (k:B):look (a++b) k=(look a k).or (look b k):=by
 induction a with
 |nil=>simp[look]
 |cons p t ih=>
  simp only[List.cons_append,look];by_cases h:p.1=k
  ·simp[h]
  ·simp[h,ih]
theorem bR (m:List (B×B)) (k k':B):look (del m k) k'=if k'=k then none else look m k':=by
 induction m with
 |nil=>simp[del,look]
 |cons p t ih=>
  unfold del at*;rw[List.filter_cons];by_cases h:p.1=k
  ·rw[if_neg (by simp[h]),ih];by_cases h2:k'=k
   ·simp[h2]
   ·simp only[if_neg h2,look];rw[if_neg (by rw[h];exactλe=>h2 e.symm)]
  ·rw[if_pos (by simp[h])];simp only[look,ih];by_cases h2:k'=k
   ·subst h2;simp[h]
   ·simp[h2]
theorem oA {m:List (B×B)} (h:ri m) (k:B):ri (del m k):=List.Pairwise.filter _ h
theorem tQ (m:List (B×B)) (k:B):m.takeWhile (λp=>decide (p.1<k))++m.dropWhile (λp=>decide (p.1<k))=m:=List.takeWhile_append_dropWhile
theorem bU (m:List (B×B)) (k v k':B):look (ins m k v) k'=if k'=k then some v else look m k':=by
 unfold ins;rw[zz];have hd:look (del m k) k=none:=by rw[bR,if_pos rfl]
 have Tb:=tQ (del m k) k;have dJ:(look ((del m k).takeWhile λp=>decide (p.1<k)) k').or (look ((del m k).dropWhile λp=>decide (p.1<k)) k')=look (del m k) k':=by rw[←zz,Tb]
 by_cases h:k'=k
 ·subst h;rw[if_pos rfl];have h1:look ((del m k').takeWhile λp=>decide (p.1<k')) k'=none:=by
   rw[hd]at dJ;cases hq:look ((del m k').takeWhile λp=>decide (p.1<k')) k' with
   |none=>rfl
   |some x=>rw[hq]at dJ;simp at dJ
  rw[h1];simp[look]
 ·rw[if_neg h];simp only[look];rw[if_neg (by exactλe=>h e.symm),dJ,bR,if_neg h]
theorem mj {m:List (B×B)} (h:ri m) (k v:B):ri (ins m k v):=by
 have hd:=oA h k;unfold ins ri;have hs:=tQ (del m k) k;have hP:(((del m k).takeWhile λp=>decide (p.1<k))++((del m k).dropWhile λp=>decide (p.1<k))).Pairwise λa b=>a.1<b.1:=by rw[hs];exact hd
 rw[List.pairwise_append]at hP⊢;obtain⟨h1,h2,h3⟩:=hP;have hT:∀a∈(del m k).takeWhile (λp=>decide (p.1<k)),a.1<k:=by
  intro a ha;have:=List.all_eq_true.1 (List.all_takeWhile (p:=λp:B×B=>decide (p.1<k)) (l:=del m k)) a ha
  simpa using this
 have hD:∀a∈(del m k).dropWhile (λp=>decide (p.1<k)),k<a.1:=by
  intro a ha;have hne:a.1≠k:=by
   have hm:a∈del m k:=(by rw[←hs];exact List.mem_append_right _ ha);unfold del at hm;have:=(List.mem_filter.1 hm).2
   simpa using this
  cases hq:(del m k).dropWhile (λp=>decide (p.1<k))with
  |nil=>rw[hq]at ha;simp at ha
  |cons x t=>
   have hx:¬x.1<k:=by
    have:=List.head_dropWhile_not (p:=λp:B×B=>decide (p.1<k)) (l:=del m k) (by rw[hq];simp);simp only[hq,List.head_cons]at this
    simpa using this
   have hxk:k≤x.1:=List.not_lt.1 hx;rw[hq]at ha h2;rcases List.mem_cons.1 ha with e|e
   ·subst e;exact JQ _ _ hx hne
   ·exact List.lt_of_le_of_lt hxk ((List.pairwise_cons.1 h2).1 a e)
 refine⟨h1,List.pairwise_cons.2 ⟨λa ha=>hD a ha,h2⟩,λa ha b hb=> ?_⟩;rcases List.mem_cons.1 hb with e|e
 ·subst e;exact hT a ha
 ·exact h3 a ha b e
theorem tq:ri []:=List.Pairwise.nil
theorem tu (m:List (B×B)) (k:B):(del m k).length≤m.length:=List.length_filter_le _ _
theorem oB (m:List (B×B)) (k v:B):(ins m k v).length=(del m k).length+1:=by
 have:=congrArg List.length (tQ (del m k) k);rw[List.length_append]at this;unfold ins;rw[List.length_append,List.length_cons];omega
end J
end Go.Proofs.YtipljcmmokaokaaGreat
namespace Go.Proofs.YtipljcmmokaokaaGreat.J
theorem xA (c:bZ):c.enc.length=c.len:=by
 unfold bZ.enc bZ.len;cases c.gone<;>simp[dO]<;>omega
theorem dF (c:bZ) (L:List bZ):(encs (c::L)).length=c.len+(encs L).length:=by simp[encs,xA]
theorem fX (L L':List bZ):(encs (L++L')).length=(encs L).length+(encs L').length:=by simp[encs]
theorem fY (p:B×B) (m:List (B×B)):values (p::m)=⟨p.1,p.2,false⟩::values m:=rfl
theorem tR (m m':List (B×B)):values (m++m')=values m++values m':=by simp[values]
theorem zA (f:B×B→Bool) (m:List (B×B)):(encs (values (m.filter f))).length≤(encs (values m)).length:=by
 induction m with
 |nil=>exact Nat.le_refl _
 |cons p t ih=>
  rw[List.filter_cons,fY,dF];split
  ·rw[fY,dF];omega
  ·omega
theorem zB (m:List (B×B)) (k:B):(encs (values (del m k))).length≤(encs (values m)).length:=zA _ m
theorem JR (m:List (B×B)) (k v:B):(encs (values (ins m k v))).length≤(encs (values m)).length+(7+k.length+v.length):=by
 have h:=zB m k;unfold ins;have e:(encs (values (del m k))).length=(encs (values ((del m k).takeWhile (λp=>decide (p.1<k))))).length+(encs (values ((del m k).dropWhile (λp=>decide (p.1<k))))).length:=by
  rw[←fX,←tR,List.takeWhile_append_dropWhile]
 rw[tR,fX,fY,dF];simp only[bZ.len];simp;omega
theorem tS (m:List (B×B)):m.length≤(encs (values m)).length:=by
 induction m with
 |nil=>exact Nat.le_refl _
 |cons p t ih=>
  rw[fY,dF,List.length_cons];simp only[bZ.len];omega
end Go.Proofs.YtipljcmmokaokaaGreat.J
namespace Go.Proofs.YtipljcmmokaokaaGreat
namespace J
structure bZ.Fit (c:bZ):Prop where
 k0:c.key≠[]
 k:c.key.length≤300
 v:c.val.length≤8192
 g:c.gone=true→c.val=[]
theorem fu (n k:Nat) (r:B) (h:n<256^k):jr ((leB n k++r).take k)=n:=by
 rw[List.take_left' (dO k n),EX,Nat.mod_eq_of_lt h]
theorem Gk (c:bZ) (h:c.Fit) (r:B):oV (c.enc++r)=some (c,r):=by
 obtain⟨key,val,gone⟩:=c;have k0:=h.k0;have k1:=h.k;have v1:=h.v;have g1:=h.g;simp only at k0 k1 v1 g1;have hk:key.length≠0:=λe=>k0 (List.eq_nil_of_length_eq_zero e);have hn:∀(x:UInt8) (t:B),jr (((x::(leB key.length 2++(key++t)):B).take 3).drop 1)=key.length:=by
  intro x t;show jr ((leB key.length 2++(key++t)).take 2)=_;exact fu _ _ _ (by omega)
 have hd:∀(x:UInt8) (t:B),(x::(leB key.length 2++(key++t)):B).drop 3=key++t:=by
  intro x t;show(leB key.length 2++(key++t)).drop 2=_;exact List.drop_left' (dO 2 _)
 have hl:∀(x:UInt8) (t:B),(x::(leB key.length 2++(key++t)):B).length=3+(key.length+t.length):=by
  intro x t;simp[dO];omega
 cases gone with
 |true=>
  obtain rfl:=g1 rfl;have e:bZ.enc ⟨key,[],true⟩++r=0::(leB key.length 2++(key++r)):=(by simp[bZ.enc]);rw[e];unfold oV;rw[if_neg (by rw[hl];simp<;>omega)];dsimp only;rw[hn,hd,if_neg (by rw[List.length_append];omega),if_pos (show((0::(leB key.length 2++(key++r)):B).headD 0=0)from rfl),List.take_left' rfl,List.drop_left' rfl]
 |false=>
  have e:bZ.enc ⟨key,val,false⟩++r=1::(leB key.length 2++(key++(leB val.length 4++(val++r)))):=(by simp[bZ.enc]);rw[e];unfold oV;rw[if_neg (by rw[hl];simp<;>omega)];dsimp only;have hv:jr ((leB val.length 4++(val++r)).take 4)=val.length:=fu _ _ _ (by omega);rw[hn,hd,if_neg (by rw[List.length_append];omega),if_neg (by simp),List.take_left' rfl,List.drop_left' rfl,hv];rw[if_neg (by rw[List.length_append,dO,List.length_append];omega),List.drop_left' (dO 4 _),List.take_left' rfl,←List.drop_drop,List.drop_left' (dO 4 _),List.drop_left' rfl]
theorem JS:encs []=[]:=rfl
theorem xB (c:bZ) (L:List bZ):encs (c::L)=c.enc++encs L:=rfl
theorem kq (c:bZ) (r:B):c.enc++r≠[]:=by
 intro e;have:=congrArg List.length e;rw[List.length_append,xA]at this;simp[bZ.len]at this
theorem nH:∀(L:List bZ),(∀c∈L,c.Fit)→cp (encs L)=some L
 |[],_=>by rw[JS];unfold cp;simp
 |c::L,h=>by
  have ih:=nH L (λc hc=>h c (List.mem_cons_of_mem _ hc));rw[xB];unfold cp;rw[if_neg (kq c _)];have he:=Gk c (h c List.mem_cons_self) (encs L);split
  ·rename_i hn;rw[he]at hn;cases hn
  ·rename_i c' r hs
   rw[he]at hs;injection hs with hs;injection hs with h1 h2;subst h1 h2;rw[ih];rfl
theorem pW (kind number:Nat) (L:List bZ):(body kind number L).length=9+(encs L).length:=by simp[body,dO];omega
theorem dP (kind number:Nat) (L:List bZ):(record kind number L).length=13+(encs L).length:=by
 rw[record,List.length_append,pW,dO];omega
theorem tT (kind number:Nat) (L:List bZ) (r:B) (hn:number<4294967296) (hl:(encs L).length<4294967296):
  (body kind number L++r).headD 0=UInt8.ofNat kind∧jr (((body kind number L++r).take 5).drop 1)=number∧jr (((body kind number L++r).take 9).drop 5)=(encs L).length∧((body kind number L++r).take (9+(encs L).length)).drop 9=encs L:=by
 have e:body kind number L++r=UInt8.ofNat kind::(leB number 4++(leB (encs L).length 4++(encs L++r))):=by simp[body]
 refine⟨by rw[e];rfl, ?_, ?_, ?_⟩
 ·rw[e];show jr ((leB number 4++_).take 4)=_;exact fu _ _ _ (by omega)
 ·rw[e];show jr (((leB number 4++(leB (encs L).length 4++(encs L++r))).take 8).drop 4)=_;rw[List.drop_take,List.drop_left' (dO 4 _)];exact fu _ _ _ (by omega)
 ·rw[List.take_left' (pW kind number L)];unfold body;show((leB number 4++leB (encs L).length 4)++encs L).drop 8=_;exact List.drop_left' (by simp[dO])
theorem zC (gen commits:Nat) (now:List (B×B)) (kind number:Nat) (L:List bZ) (r:B) (first:Bool) (hn:number<4294967296) (hl:(encs L).length<4294967296) (hL:∀c∈L,c.Fit) (hk:if first=true∧0<gen then kind=1 else kind=0∧number=commits+1) (eN:List (B×B)) (ha:cB now L=some eN):
  take gen commits now (record kind number L++r) first= .took (record kind number L).length number eN:=by
 have hr:record kind number L++r=body kind number L++(leB (bM (body kind number L)) 4++r):=by simp[record]
 obtain⟨h1,h2,h3,h4⟩:=tT kind number L (leB (bM (body kind number L)) 4++r) hn hl;have hlen:(record kind number L++r).length=13+(encs L).length+r.length:=by rw[List.length_append,dP]
 have hc:=CC (body kind number L);unfold take;rw[if_neg (by rw[hlen,hr,h3];omega)];dsimp only;rw[hr,h3,h4,h2,h1];rw[List.take_left' (pW kind number L),List.drop_left' (pW kind number L),fu _ _ _ (by omega),if_neg (by simp),nH L hL];dsimp only;rw[ha];have jN:(if first=true∧0<gen then UInt8.ofNat kind=1 else UInt8.ofNat kind=0∧number=commits+1):=by
  split at hk
  ·rename_i h;rw[if_pos h,hk];rfl
  ·rename_i h;rw[if_neg h,hk.1];exact⟨rfl,hk.2⟩
 rw[if_neg (not_not_intro jN),dP];show Wq.took (9+(encs L).length+4) number eN=_
 congr 1;omega
theorem Gl (gen commits:Nat) (now:List (B×B)) (kind number:Nat) (L:List bZ) (t:Nat) (first:Bool) (hn:number<4294967296) (hl:(encs L).length<4294967296) (ht:t<(record kind number L).length):
  take gen commits now ((record kind number L).take t) first= .stop:=by
 rw[dP]at ht;have hlen:((record kind number L).take t).length=t:=by rw[List.length_take,dP];omega
 unfold take;rw[if_pos];rw[hlen];by_cases h9:t<9
 ·exact .inl h9
 ·obtain⟨h1,h2,h3,h4⟩:=tT kind number L (leB (bM (body kind number L)) 4) hn hl;have e:((record kind number L).take t).take 9=(record kind number L).take 9:=(by rw[List.take_take,Nat.min_eq_left (by omega)]);rw[e];have h3':jr (((record kind number L).take 9).drop 5)=(encs L).length:=h3;rw[h3'];omega
theorem take_nil (gen commits:Nat) (now:List (B×B)) (first:Bool):take gen commits now [] first= .stop:=by
 unfold take;rw[if_pos (.inl (by simp))]
theorem rj {gen commits:Nat} {now:List (B×B)} {b:B} {first:Bool} {n c':Nat} {eN:List (B×B)}:take gen commits now b first= .took n c' eN↔
  ¬(b.length<9∨b.length - 13<jr ((b.take 9).drop 5)∨b.length<13)∧bM (b.take (9+jr ((b.take 9).drop 5)))=jr ((b.drop (9+jr ((b.take 9).drop 5))).take 4)∧
  (∃L,cp ((b.take (9+jr ((b.take 9).drop 5))).drop 9)=some L∧(if first=true∧0<gen then b.headD 0=1 else b.headD 0=0∧jr ((b.take 5).drop 1)=commits+1)∧cB now L=some eN)∧
  n=9+jr ((b.take 9).drop 5)+4∧c'=jr ((b.take 5).drop 1):=by
 unfold take;by_cases h1:b.length<9∨b.length - 13<jr ((b.take 9).drop 5)∨b.length<13
 ·rw[if_pos h1];constructor
  ·intro h;cases h
  ·intro h;exact absurd h1 h.1
 rw[if_neg h1];dsimp only;by_cases h2:bM (b.take (9+jr ((b.take 9).drop 5)))=jr ((b.drop (9+jr ((b.take 9).drop 5))).take 4)
 ·rw[if_neg (not_not_intro h2)];cases hL:cp ((b.take (9+jr ((b.take 9).drop 5))).drop 9)with
  |none=>
   dsimp only;constructor
   ·intro h;cases h
   ·rintro⟨_,_,⟨L,h,_⟩,_⟩;cases h
  |some L=>
   dsimp only;by_cases h3:(if first=true∧0<gen then b.headD 0=1 else b.headD 0=0∧jr ((b.take 5).drop 1)=commits+1)
   ·rw[if_neg (not_not_intro h3)];cases hA:cB now L with
    |none=>
     dsimp only;constructor
     ·intro h;cases h
     ·rintro⟨_,_,⟨L',h,_,h'⟩,_⟩;injection h with h;subst h;rw[hA]at h';cases h'
    |some m=>
     dsimp only;constructor
     ·intro h;injection h with e1 e2 e3;subst e1 e2 e3;exact⟨h1,h2,⟨L,rfl,h3,hA⟩,rfl,rfl⟩
     ·rintro⟨_,_,⟨L',h,_,h'⟩,rfl,rfl⟩;injection h with h;subst h;rw[hA]at h';injection h' with h';rw[h']
   ·rw[if_pos h3];constructor
    ·intro h;cases h
    ·rintro⟨_,_,⟨L',h,h',_⟩,_⟩;exact absurd h' h3
 ·rw[if_pos h2];constructor
  ·intro h;cases h
  ·intro h;exact absurd h.2.1 h2
theorem zD {gen commits:Nat} {now:List (B×B)} {b b':B} {first:Bool} {n c':Nat} {eN:List (B×B)} (h:take gen commits now b first= .took n c' eN) (hb:b'.take n=b.take n):take gen commits now b' first= .took n c' eN∧13≤n∧n≤b.length:=by
 obtain⟨h0,hs,hL,hn,hc⟩:=rj.1 h;generalize hlen:jr ((b.take 9).drop 5)=len at*;have hbl:n≤b.length:=by omega
 have aao:n≤b'.length:=by
  have:=congrArg List.length hb;rw[List.length_take,List.length_take]at this;omega
 have hcut:∀k,k≤n→b'.take k=b.take k:=by
  intro k hk;have:=congrArg (List.take k) hb
  rwa [List.take_take,List.take_take,Nat.min_eq_left hk]at this
 have Ws:(b'.drop (9+len)).take 4=(b.drop (9+len)).take 4:=by
  have h5:∀(x:B),(x.drop (9+len)).take 4=(x.take (9+len+4)).drop (9+len):=λx=>by rw[List.drop_take];congr 1;omega
  rw[h5,h5,hcut _ (by omega)]
 have Wt:b'.headD 0=b.headD 0:=by
  have:=hcut 1 (by omega);cases b with
  |nil=>simp at hbl;omega
  |cons x t=>cases b' with
   |nil=>simp at aao;omega
   |cons y t'=>simpa using this
 refine⟨rj.2 ?_,by omega,hbl⟩;rw[hcut 9 (by omega),hlen,hcut (9+len) (by omega),Ws,hcut 5 (by omega),Wt];exact⟨by omega,hs,hL,hn,hc⟩
end J
namespace J
inductive Reads (gen:Nat) (b:B):Nat→Nat→List (B×B)→Nat→Nat→List (B×B)→Prop where
 |refl (at_ c:Nat) (now:List (B×B)):Reads gen b at_ c now at_ c now
 |step {at_ c:Nat} {now:List (B×B)} {n c1:Nat} {Tc:List (B×B)} {at' c':Nat} {eN:List (B×B)} (h:take gen c now (b.drop at_) (at_==0)= .took n c1 Tc) (t:Reads gen b (at_+n) c1 Tc at' c' eN):Reads gen b at_ c now at' c' eN
theorem Reads.le {gen:Nat} {b:B} {at_ c:Nat} {now:List (B×B)} {at' c':Nat} {eN:List (B×B)} (h:Reads gen b at_ c now at' c' eN):at_≤at'∧(at_≤b.length→at'≤b.length):=by
 induction h with
 |refl=>exact⟨Nat.le_refl _,id⟩
 |step h t ih=>
  obtain⟨_,h1,h2⟩:=zD h rfl;rw[List.length_drop]at h2;exact⟨by omega,λh=>ih.2 (by omega)⟩
theorem Reads.trans {gen:Nat} {b:B} {a c a' c' a'' c'':Nat} {m m' m'':List (B×B)} (h:Reads gen b a c m a' c' m') (k:Reads gen b a' c' m' a'' c'' m''):Reads gen b a c m a'' c'' m'':=by
 induction h with
 |refl=>exact k
 |step h t ih=>exact .step h (ih k)
theorem Reads.ext {gen:Nat} {b b':B} {a c a' c':Nat} {m m':List (B×B)} (h:Reads gen b a c m a' c' m') (e:b'.take a'=b.take a'):Reads gen b' a c m a' c' m':=by
 induction h with
 |refl=>exact .refl _ _ _
 | @step at_ c now n c1 Tc at' c' eN h t ih=>
  have hle:=t.le.1;have e2:(b'.drop at_).take n=(b.drop at_).take n:=by
   have h5:∀(x:B),(x.drop at_).take n=((x.take at').take (at_+n)).drop at_:=λx=>by rw[List.take_take,Nat.min_eq_left hle,List.drop_take];congr 1;omega
   rw[h5,h5,e]
  exact .step (zD h e2).1 (ih e)
def eF.Has (q:Prop) (m:eF) (gen area:Nat) (commits:Nat) (now:List (B×B)):Prop:=
 ∃at_,Reads gen (m.area area) 0 0 [] at_ commits now∧take gen commits now ((m.area area).drop at_) (at_==0)= .stop∧(q→0<gen→0<at_)
structure eF.Holds (q:Prop) (m:eF) (commits:Nat) (now:List (B×B)):Prop where
 a0:m.a0.length≤8388608
 a1:m.a1.length≤8388608
 has:eF.Has q m (current m.h0 m.h1).1 (current m.h0 m.h1).2.1 commits now
end J
namespace J
def oP (m:List (B×B)):Prop:=∀p∈m,p.1≠[]∧p.1.length≤300∧p.2.length≤8192
theorem kr (m:List (B×B)) (c:bZ) (t:List bZ):cB m (c::t)=if c.gone then(if look m c.key=none then none else cB (del m c.key) t)else cB (ins m c.key c.val) t:=rfl
theorem ml:∀(L L':List bZ) (m:List (B×B)),cB m (L++L')=(cB m L).bind λm'=>cB m' L'
 |[],L',m=>rfl
 |c::L,L',m=>by
  rw[List.cons_append,kr,kr];split
  ·split
   ·rfl
   ·exact ml L L' _
  ·exact ml L L' _
theorem tz {m:List (B×B)} (h:oP m) (k:B):oP (del m k):=λp hp=>h p (List.mem_filter.1 hp).1
theorem EZ {m:List (B×B)} (h:oP m) (k v:B) (h0:k≠[]) (h1:k.length≤300) (h2:v.length≤8192):oP (ins m k v):=by
 intro p hp;unfold ins at hp;rcases List.mem_append.1 hp with hp|hp
 ·exact tz h k p (List.takeWhile_subset _ hp)
 ·rcases List.mem_cons.1 hp with rfl|hp
  ·exact⟨h0,h1,h2⟩
  ·exact tz h k p (List.dropWhile_subset _ hp)
theorem Fa:oP []:=λp hp=>by cases hp
theorem mq:∀(L:List bZ) (m m':List (B×B)),(∀c∈L,c.Fit)→oP m→ri m→cB m L=some m'→oP m'∧ri m'
 |[],m,m',_,h,ha,e=>by injection e with e;subst e;exact⟨h,ha⟩
 |c::L,m,m',hL,h,ha,e=>by
  have hc:=hL c List.mem_cons_self;have hL':∀c∈L,c.Fit:=λc hc=>hL c (List.mem_cons_of_mem _ hc);rw[kr]at e;split at e
  ·split at e
   ·cases e
   ·exact mq L _ _ hL' (tz h _) (oA ha _) e
  ·exact mq L _ _ hL' (EZ h _ _ hc.k0 hc.k hc.v) (mj ha _ _) e
theorem Gm {b:B} {c:bZ} {r:B} (h:oV b=some (c,r)):c.Fit:=by
 unfold oV at h;split at h
 ·cases h
 ·dsimp only at h;split at h
  ·cases h
  ·rename_i hn
   have key:(List.take (jr ((b.take 3).drop 1)) (b.drop 3))≠[]∧(List.take (jr ((b.take 3).drop 1)) (b.drop 3)).length≤300:=by
    refine⟨λe=> ?_,by rw[List.length_take];omega⟩;have:=congrArg List.length e;rw[List.length_take]at this;simp only[List.length_nil]at this;omega
   split at h
   ·injection h with h;injection h with h _;subst h;exact⟨key.1,key.2,Nat.zero_le _,λ_=>rfl⟩
   ·split at h
    ·cases h
    ·rename_i hv
     injection h with h;injection h with h _;subst h;exact⟨key.1,key.2,by show(List.take _ _).length≤8192;rw[List.length_take];omega,λe=>by cases e⟩
theorem oW:∀(n:Nat) (b:B) (L:List bZ),b.length≤n→cp b=some L→∀c∈L,c.Fit
 |n,b,L,hn,h=>by
  unfold cp at h;split at h
  ·injection h with h;subst h;intro c hc;cases hc
  ·split at h
   ·cases h
   ·rename_i c r hs
    cases hq:cp r with
    |none=>rw[hq]at h;cases h
    |some L'=>
     rw[hq]at h;injection h with h;subst h;have hl:=tP hs;cases n with
     |zero=>omega
     |succ k=>
      intro c' hc';rcases List.mem_cons.1 hc' with rfl|hc'
      ·exact Gm hs
      ·exact oW k r L' (by omega) hq c' hc'
theorem JT {gen commits:Nat} {now:List (B×B)} {b:B} {first:Bool} {n c':Nat} {eN:List (B×B)} (h:take gen commits now b first= .took n c' eN) (hf:oP now) (ha:ri now):oP eN∧ri eN∧c'<4294967296:=by
 obtain⟨_,_,⟨L,hL,_,hap⟩,_,h2⟩:=rj.1 h;obtain⟨g1,g2⟩:=mq L _ _ (oW _ _ L (Nat.le_refl _) hL) hf ha hap;refine⟨g1,g2, ?_⟩;rw[h2];have:=JO ((b.take 5).drop 1);have hl:((b.take 5).drop 1).length≤4:=by rw[List.length_drop,List.length_take];omega
 exact Nat.lt_of_lt_of_le this (Nat.pow_le_pow_right (by omega) hl)
theorem Reads.fit {gen:Nat} {b:B} {a c a' c':Nat} {m m':List (B×B)} (h:Reads gen b a c m a' c' m') (hf:oP m) (ha:ri m) (hc:c<4294967296):oP m'∧ri m'∧c'<4294967296:=by
 induction h with
 |refl=>exact⟨hf,ha,hc⟩
 |step h t ih=>obtain⟨h1,h2,h3⟩:=JT h hf ha;exact ih h1 h2 h3
def JU (h:B):Prop:=h=[]∨valid h≠none
structure iu (q:Prop) (d:eF) (gen area side commits:Nat) (now:List (B×B)):Prop where
 cur:current d.h0 d.h1=(gen,area,side)
 ar:area≤1
 h0:JU d.h0
 h1:JU d.h1
 full:Reads gen (d.area area) 0 0 [] (d.area area).length commits now
 a0:d.a0.length≤8388608
 a1:d.a1.length≤8388608
 g:q→0<gen→0<(d.area area).length
end J
namespace J
section
variable {q : Prop} {d : eF} {gen area side commits : Nat} {now : List (B × B)}
theorem pX (m:eF) (i:Nat) (b:B):(m.bN i b).area i=b:=by unfold eF.bN eF.area;split<;>rfl
theorem zE (m:eF) (i j:Nat) (b:B) (h:(i=0)≠(j=0)):(m.bN i b).area j=m.area j:=by
 unfold eF.bN eF.area;by_cases hi:i=0<;>by_cases hj:j=0<;>simp_all
theorem rk (m:eF) (i:Nat) (b:B):(m.bN i b).h0=m.h0:=by unfold eF.bN;split<;>rfl
theorem rp (m:eF) (i:Nat) (b:B):(m.bN i b).h1=m.h1:=by unfold eF.bN;split<;>rfl
theorem xC (m:eF) (i:Nat) (b:B) (n:Nat) (h:m.a0.length≤n) (hb:b.length≤n):(m.bN i b).a0.length≤n:=by unfold eF.bN;split<;>assumption
theorem xD (m:eF) (i:Nat) (b:B) (n:Nat) (h:m.a1.length≤n) (hb:b.length≤n):(m.bN i b).a1.length≤n:=by unfold eF.bN;split<;>assumption
theorem iu.holds (h:iu q d gen area side commits now):eF.Holds q d commits now:=
 ⟨h.a0,h.a1,by rw[h.cur];exact⟨_,h.full,by rw[List.drop_length];exact take_nil _ _ _ _,h.g⟩⟩
theorem iu.CD (h:iu q d gen area side commits now) (L:List bZ) (hc:commits+1<4294967296) (hl:(encs L).length<4294967296) (hs:(d.area area).length+(record 0 (commits+1) L).length≤8388608) (t:Nat) (ht:t<(record 0 (commits+1) L).length):
  eF.Holds q (done d ⟨0,area,record 0 (commits+1) L⟩ t) commits now:=by
 have e:done d ⟨0,area,record 0 (commits+1) L⟩ t=d.bN area (d.area area++(record 0 (commits+1) L).take t):=rfl;have hb:(d.area area++(record 0 (commits+1) L).take t).length≤8388608:=by rw[List.length_append,List.length_take];omega
 rw[e];refine⟨xC _ _ _ _ h.a0 hb,xD _ _ _ _ h.a1 hb, ?_⟩;rw[rk,rp,h.cur];refine⟨(d.area area).length, ?_, ?_,h.g⟩
 ·show Reads gen ((d.bN area _).area area) _ _ _ _ _ _;rw[pX];exact h.full.ext (by rw[List.take_left' rfl,List.take_length])
 ·show take gen commits now (List.drop _ ((d.bN area _).area area)) _=_;rw[pX,List.drop_left' rfl];exact Gl gen commits now 0 (commits+1) L t _ hc hl ht
theorem iu.dh (h:iu q d gen area side commits now) (L:List bZ) (hc:commits+1<4294967296) (hl:(encs L).length<4294967296) (hs:(d.area area).length+(record 0 (commits+1) L).length≤8388608) (hL:∀c∈L,c.Fit)
  (hq:q) (eN:List (B×B)) (ha:cB now L=some eN):
  iu q (done d ⟨0,area,record 0 (commits+1) L⟩ (record 0 (commits+1) L).length) gen area side (commits+1) eN:=by
 have e:done d ⟨0,area,record 0 (commits+1) L⟩ (record 0 (commits+1) L).length=d.bN area (d.area area++record 0 (commits+1) L):=by
  show d.bN area (d.area area++(record 0 (commits+1) L).take _)=_;rw[List.take_length]
 have hb:(d.area area++record 0 (commits+1) L).length≤8388608:=by rw[List.length_append];omega
 rw[e];refine⟨by rw[rk,rp,h.cur],h.ar,by rw[rk];exact h.h0,by rw[rp];exact h.h1, ?_,xC _ _ _ _ h.a0 hb,xD _ _ _ _ h.a1 hb,λ_ _=>by rw[pX,List.length_append,dP];omega⟩;rw[pX];refine(h.full.ext (b':=d.area area++record 0 (commits+1) L) (by rw[List.take_left' rfl,List.take_length])).trans ?_;have ht:=zC gen commits now 0 (commits+1) L [] ((d.area area).length==0) hc hl hL (by
  rw[if_neg]
  ·exact⟨rfl,rfl⟩
  ·rintro⟨h1,h2⟩;have:=h.g hq h2;have h1:=beq_iff_eq.1 h1;omega) eN ha
 rw[List.append_nil]at ht;have:=Reads.step (gen:=gen) (b:=d.area area++record 0 (commits+1) L) (at_:=(d.area area).length) (c:=commits) (now:=now) (by rw[List.drop_left' rfl];exact ht) (.refl _ _ _);rw[List.length_append];exact this
theorem iu.other (h:iu q d gen area side commits now) (b:B) (hb:b.length≤8388608):iu q (d.bN (1 - area) b) gen area side commits now:=by
 have:=h.ar;refine⟨by rw[rk,rp,h.cur],h.ar,by rw[rk];exact h.h0,by rw[rp];exact h.h1, ?_,xC _ _ _ _ h.a0 hb,xD _ _ _ _ h.a1 hb, ?_⟩
 all_goals rw[zE _ _ _ _ (by rcases Nat.eq_zero_or_pos area with e|e<;>simp<;>omega)]
 ·exact h.full
 ·exact h.g
end
end J
namespace J
def fw (s:St) (w t:Nat):eF:=
 match s.writes[w]? with
 |none=>cV s.base (s.writes.take w)
 |some wr=>if t=0 then cV s.base (s.writes.take w)else done (cV s.base (s.writes.take w)) wr t
def vD (s:St) (w t:Nat):Nat:=
 match s.writes[w]? with
 |none=>w
 |some wr=>if 0<t∧t=wr.bs.length then w+1 else w
def eO (at_:List Nat) (w:Nat):Nat:=at_.zipIdx.foldl (λn p=>if p.1≤w then p.2 else n) 0
theorem jU (at_:List Nat) (x w:Nat):eO (at_++[x]) w=if x≤w then at_.length else eO at_ w:=by
 unfold eO;rw[List.zipIdx_append,List.foldl_append];simp
theorem wu:∀(n:Nat) (at_:List Nat) (w:Nat),at_.length=n→0<n→eO at_ w<n
 |0,_,_,_,h=>absurd h (by omega)
 |n+1,at_,w,h,_=>by
  obtain⟨l,x,rfl⟩:∃l x,at_=l++[x]:=by
   rcases List.eq_nil_or_concat at_ with e|⟨l,x,e⟩
   ·subst e;simp at h
   ·exact⟨l,x,by rw[e,List.concat_eq_append]⟩
  have hl:l.length=n:=(by rw[List.length_append]at h;simp at h;exact h);rw[jU];split
  ·omega
  ·cases n with
   |zero=>
    have:l=[]:=List.eq_nil_of_length_eq_zero hl;subst this;simp[eO]
   |succ k=>have:=wu (k+1) l w hl (by omega);omega
theorem tU:∀(n:Nat) (at_:List Nat) (w:Nat),at_.length=n→0<n→(∀x∈at_,x≤w)→eO at_ w=n - 1
 |0,_,_,_,h,_=>absurd h (by omega)
 |n+1,at_,w,h,_,ha=>by
  obtain⟨l,x,rfl⟩:∃l x,at_=l++[x]:=by
   rcases List.eq_nil_or_concat at_ with e|⟨l,x,e⟩
   ·subst e;simp at h
   ·exact⟨l,x,by rw[e,List.concat_eq_append]⟩
  have hl:l.length=n:=(by rw[List.length_append]at h;simp at h;exact h);rw[jU,if_pos (ha x (by simp)),hl];omega
def St.com (s:St):List (B×B):=if s.opn then s.was else s.now
structure Inv (q:Prop) (s:St):Prop where
 disk:iu q s.disk s.gen s.area s.side s.commits s.com
 fold:s.disk=cV s.base s.writes
 fit:oP s.now
 asc:ri s.now
 cfit:oP s.com
 casc:ri s.com
 chs:∀c∈s.changes,c.Fit
 ap:s.opn=true→cB s.was s.changes=some s.now
structure mr (q:Prop) (s:St) (b:Nat) (states:List (List (B×B))) (at_:List Nat):Prop where
 len:states.length=at_.length
 pos:0<at_.length
 le:∀x∈at_,x≤s.writes.length
 com:b+(at_.length - 1)=s.commits
 last:states[at_.length - 1]? =some s.com
 holds:∀w t,w≤s.writes.length→(t=0∨∃wr,s.writes[w]? =some wr∧t≤wr.bs.length)→∃now,states[eO at_ (vD s w t)]? =some now∧eF.Holds q (fw s w t) (b+eO at_ (vD s w t)) now
theorem rq (m:eF) (l:List Wr) (w:Wr):cV m (l++[w])=done (cV m l) w w.bs.length:=by unfold cV;rw[List.foldl_append];rfl
theorem mv {s:St} {wr:Wr} {w:Nat} (h:w<s.writes.length):(s.writes++[wr])[w]? =s.writes[w]? :=List.getElem?_append_left h
theorem dQ {s:St} {wr:Wr}:(s.writes++[wr])[s.writes.length]? =some wr:=by simp
theorem OU {b n c:Nat} (h:0<n) (h2:b+(n - 1)=c):b+n=c+1:=by omega
section
variable {q : Prop} {s s' : St} {wr : Wr} {b : Nat} {states : List (List (B × B))} {at_ : List Nat}
theorem JV (hw:s'.writes=s.writes++[wr]) (hb:s'.base=s.base) {w:Nat} (t:Nat) (h:w<s.writes.length):fw s' w t=fw s w t∧vD s' w t=vD s w t:=by
 unfold fw vD;rw[hw,hb,mv h,List.take_append_of_le_length (by omega)];exact⟨rfl,rfl⟩
theorem Td {w t:Nat} (h:w<s.writes.length):vD s w t≤s.writes.length:=by
 unfold vD;split
 ·omega
 ·split<;>omega
theorem mr.write (h:mr q s b states at_) (hw:s'.writes=s.writes++[wr]) (hb:s'.base=s.base) (hf:s.disk=cV s.base s.writes) (hc:s'.commits=s.commits) (py:s'.com=s.com)
  (hd:eF.Holds q s.disk s.commits s.com) (ht:∀t,0<t→t≤wr.bs.length→eF.Holds q (done s.disk wr t) s.commits s.com) (hn:eF.Holds q (done s.disk wr wr.bs.length) s.commits s.com):mr q s' b states at_:=by
 refine⟨h.len,h.pos,λx hx=>by rw[hw,List.length_append];have:=h.le x hx;omega,by rw[hc];exact h.com,by rw[py];exact h.last,λw t Gn hv=> ?_⟩;have RI:∀v,s.writes.length≤v→∃now,states[eO at_ v]? =some now∧now=s.com∧b+eO at_ v=s.commits:=by
  intro v hv;rw[tU _ at_ v rfl h.pos (λx hx=>Nat.le_trans (h.le x hx) hv)];exact⟨_,h.last,rfl,h.com⟩
 rcases Nat.lt_or_ge w s.writes.length with hlt|vE
 ·obtain⟨e1,e2⟩:=JV hw hb t hlt;rw[e1,e2];refine h.holds w t (by omega) ?_;rw[hw,mv hlt]at hv;exact hv
 ·rw[hw,List.length_append]at Gn;have Gn:w≤s.writes.length+1:=Gn;rcases(show w=s.writes.length∨w=s.writes.length+1 by omega)with rfl|rfl
  ·have he:s.writes.length≤vD s' s.writes.length t:=(by unfold vD;rw[hw,dQ];dsimp only;split<;>omega);obtain⟨now,h1,rfl,h3⟩:=RI _ he;refine⟨_,h1, ?_⟩;rw[h3];unfold fw;rw[hw,hb,dQ,List.take_left' rfl,←hf];dsimp only;split
   ·exact hd
   ·rename_i ht0
    rw[hw,dQ]at hv;rcases hv with hv|⟨wr',e,hv⟩
    ·exact absurd hv ht0
    ·injection e with e;subst e;exact ht t (by omega) hv
  ·have hnone:(s.writes++[wr])[s.writes.length+1]? =none:=List.getElem?_eq_none (by simp);have he:s.writes.length≤vD s' (s.writes.length+1) t:=(by unfold vD;rw[hw,hnone];dsimp only;omega);obtain⟨now,h1,rfl,h3⟩:=RI _ he;refine⟨_,h1, ?_⟩;rw[h3];unfold fw;rw[hw,hb,hnone,List.take_of_length_le (by simp),rq,←hf];exact hn
theorem mr.dh (h:mr q s b states at_) (hw:s'.writes=s.writes++[wr]) (hb:s'.base=s.base) (hf:s.disk=cV s.base s.writes) (hc:s'.commits=s.commits+1) (eN:List (B×B)) (py:s'.com=eN) (h0:0<wr.bs.length)
  (hd:eF.Holds q s.disk s.commits s.com) (ht:∀t,0<t→t<wr.bs.length→eF.Holds q (done s.disk wr t) s.commits s.com) (hn:eF.Holds q (done s.disk wr wr.bs.length) (s.commits+1) eN):
  mr q s' b (states++[eN]) (at_++[s.writes.length+1]):=by
 have Te:=h.pos;have hlen:=h.len;have RJ:=h.com;have rr:b+at_.length=s.commits+1:=OU Te RJ;refine⟨by simp[hlen],by simp,λx hx=> ?_,by rw[hc];simp;omega,by rw[py];simp[←hlen],λw t Gn hv=> ?_⟩
 ·rw[hw,List.length_append];rcases List.mem_append.1 hx with hx|hx
  ·have:=h.le x hx;omega
  ·simp at hx;subst hx;simp
 have xE:∀v,s.writes.length+1≤v→∃now,(states++[eN])[eO (at_++[s.writes.length+1]) v]? =some now∧now=eN∧b+eO (at_++[s.writes.length+1]) v=s.commits+1:=by
  intro v hv;rw[jU,if_pos hv];exact⟨eN,by rw[←hlen];simp,rfl,rr⟩
 have hold:∀v,v≤s.writes.length→eO (at_++[s.writes.length+1]) v=eO at_ v∧(states++[eN])[eO at_ v]? =states[eO at_ v]? :=by
  intro v hv;rw[jU,if_neg (by omega)];have:=wu _ at_ v rfl Te;exact⟨rfl,List.getElem?_append_left (by omega)⟩
 rcases Nat.lt_or_ge w s.writes.length with hlt|vE
 ·obtain⟨e1,e2⟩:=JV hw hb t hlt;rw[e1,e2];obtain⟨e3,e4⟩:=hold _ (Td (t:=t) hlt);rw[e3,e4];refine h.holds w t (by omega) ?_;rw[hw,mv hlt]at hv;exact hv
 ·rw[hw,List.length_append]at Gn;have Gn:w≤s.writes.length+1:=Gn;rcases(show w=s.writes.length∨w=s.writes.length+1 by omega)with rfl|rfl
  ·have hcut:fw s' s.writes.length t=if t=0 then s.disk else done s.disk wr t:=by
    unfold fw;rw[hw,hb,dQ,List.take_left' rfl,←hf]
   by_cases JW:0<t∧t=wr.bs.length
   ·have he:vD s' s.writes.length t=s.writes.length+1:=(by unfold vD;rw[hw,dQ];dsimp only;rw[if_pos JW]);rw[he,hcut];obtain⟨now,h1,rfl,h3⟩:=xE _ (Nat.le_refl _);refine⟨_,h1, ?_⟩;rw[h3,if_neg (by omega),JW.2];exact hn
   ·have he:vD s' s.writes.length t=s.writes.length:=(by unfold vD;rw[hw,dQ];dsimp only;rw[if_neg JW]);rw[he,hcut];obtain⟨e3,e4⟩:=hold _ (Nat.le_refl _);rw[e3,e4,tU _ at_ _ rfl Te h.le];refine⟨_,h.last, ?_⟩;rw[RJ];split
    ·exact hd
    ·rename_i ht0
     rw[hw,dQ]at hv;rcases hv with hv|⟨wr',e,hv⟩
     ·exact absurd hv ht0
     ·injection e with e;subst e;exact ht t (by omega) (by omega)
  ·have hnone:(s.writes++[wr])[s.writes.length+1]? =none:=List.getElem?_eq_none (by simp);have he:vD s' (s.writes.length+1) t=s.writes.length+1:=(by unfold vD;rw[hw,hnone]);rw[he];obtain⟨now,h1,rfl,h3⟩:=xE _ (Nat.le_refl _);refine⟨_,h1, ?_⟩;rw[h3];unfold fw;rw[hw,hb,hnone,List.take_of_length_le (by simp),rq,←hf];exact hn
end
end J
namespace J
theorem Fb (q:Prop):Inv q new:=
 ⟨⟨rfl,Nat.zero_le _, .inl rfl, .inl rfl, .refl _ _ _,Nat.zero_le _,Nat.zero_le _,λ_ h=>absurd h (Nat.lt_irrefl _)⟩,rfl,Fa,tq,Fa,tq,λc hc=>(by cases hc),λh=>(by cases h)⟩
theorem Gp {q:Prop} {s:St} (h:Inv q s) (hw:s.writes=[]):mr q s s.commits [s.com] [0]:=by
 refine⟨rfl,Nat.one_pos,λx hx=>by simp at hx;omega,rfl,rfl,λw t Gn _=> ?_⟩;rw[hw]at Gn;obtain rfl:w=0:=by simpa using Gn
 have he:vD s 0 t=0:=by unfold vD;rw[hw];rfl
 have hc:fw s 0 t=s.disk:=by rw[h.fold];unfold fw;rw[hw];rfl
 rw[he,hc];exact⟨_,rfl,h.disk.holds⟩
section
variable {q : Prop} {s : St} {b : Nat} {states : List (List (B × B))} {at_ : List Nat}
theorem mr.same {s':St} (h:mr q s b states at_) (hw:s'.writes=s.writes) (hb:s'.base=s.base) (hc:s'.commits=s.commits) (py:s'.com=s.com):mr q s' b states at_:=by
 have e1:∀w t,fw s' w t=fw s w t:=λw t=>by unfold fw;rw[hw,hb]
 have e2:∀w t,vD s' w t=vD s w t:=λw t=>by unfold vD;rw[hw]
 refine⟨h.len,h.pos,by rw[hw];exact h.le,by rw[hc];exact h.com,by rw[py];exact h.last,λw t Gn hv=> ?_⟩;rw[e1,e2];rw[hw]at Gn hv;exact h.holds w t Gn hv
theorem wy (h:Inv q s) (ho:s.opn=false):Inv q (cM s)∧(cM s).com=s.com:=by
 have py:s.com=s.now:=by unfold St.com;rw[ho];rfl
 have nI:(cM s).com=s.now:=rfl;have hd:=h.disk;rw[py]at hd;exact⟨⟨hd,h.fold,h.fit,h.asc,h.fit,h.asc,λc hc=>(by cases hc),λ_=>rfl⟩,by rw[py,nI]⟩
theorem zF (h:Inv q s) (ho:s.opn=true):Inv q (cA s)∧(cA s).com=s.com:=by
 have py:s.com=s.was:=by unfold St.com;rw[ho];rfl
 have nI:(cA s).com=s.was:=rfl;have hd:=h.disk;have hf:=h.cfit;have ha:=h.casc;rw[py]at hd hf ha;exact⟨⟨hd,h.fold,hf,ha,hf,ha,λc hc=>(by cases hc),λe=>(by cases e)⟩,by rw[py,nI]⟩
theorem Gq (h:Inv q s) (ho:s.opn=true) (c:bZ) (hc:c.Fit) (hg:c.gone=true→look s.now c.key≠none):Inv q (apply {s with changes:=s.changes++[c],size:=s.size+c.len} c):=by
 refine⟨?_,h.fold, ?_, ?_, ?_, ?_,λx hx=> ?_,λ_=> ?_⟩
 ·have hd:=h.disk;have py:s.com=s.was:=(by unfold St.com;rw[ho];rfl);have nI:(apply {s with changes:=s.changes++[c],size:=s.size+c.len} c).com=s.was:=(by unfold St.com apply;dsimp only;rw[ho];rfl);rw[nI];rw[py]at hd;exact hd
 ·show oP (if c.gone then _ else _);split
  ·exact tz h.fit _
  ·exact EZ h.fit _ _ hc.k0 hc.k hc.v
 ·show ri (if c.gone then _ else _);split
  ·exact oA h.asc _
  ·exact mj h.asc _ _
 ·have hf:=h.cfit;unfold St.com at hf;rw[ho]at hf;show oP (if s.opn then s.was else _);rw[ho];exact hf
 ·have hf:=h.casc;unfold St.com at hf;rw[ho]at hf;show ri (if s.opn then s.was else _);rw[ho];exact hf
 ·rcases List.mem_append.1 hx with hx|hx
  ·exact h.chs x hx
  ·simp at hx;subst hx;exact hc
 ·show cB s.was (s.changes++[c])=some (if c.gone then del s.now c.key else ins s.now c.key c.val);rw[ml,h.ap ho];show cB s.now [c]=_;unfold cB;cases hgo:c.gone with
  |true=>simp only[if_true];rw[if_neg (hg hgo)];rfl
  |false=>simp only[Bool.false_eq_true,if_false];rfl
theorem CE {s:St} (w:Wr) (h:s.disk=cV s.base s.writes):(write s w).disk=cV (write s w).base (write s w).writes:=by
 have e:cV (write s w).base (write s w).writes=cV s.base (s.writes++[w]):=rfl;rw[e,rq,←h];rfl
def c1 (s:St):St:=write s ⟨1,1 - s.area,[]⟩
def c2 (s:St):St:=write (c1 s) ⟨0,1 - s.area,record 1 s.commits (values s.com)⟩
def c2' (s:St):St:={c2 s with side:=1 - s.side}
def c3 (s:St):St:=write (c2' s) ⟨2,1 - s.side,part (s.gen+1) (1 - s.area)++part (s.gen+1) (1 - s.area)⟩
theorem oX (h:Inv q s) (hq:q) (ho:s.opn=true) (hs:(s.disk.area s.area).length+(record 0 (s.commits+1) s.changes).length≤8388608) (hc:s.commits+1<4294967296) (hl:(encs s.changes).length<4294967296):
  Inv q (aL s)∧(aL s).com=s.now∧(mr q s b states at_→mr q (aL s) b (states++[s.now]) (at_++[s.writes.length+1])):=by
 have py:s.com=s.was:=by unfold St.com;rw[ho];rfl
 have hd:=h.disk;have hap:cB s.com s.changes=some s.now:=by rw[py];exact h.ap ho
 have d1:=hd.dh s.changes hc hl hs h.chs hq s.now hap;have f1:(aL s).disk=cV (aL s).base (aL s).writes:=CE (s:=s) ⟨0,s.area,record 0 (s.commits+1) s.changes⟩ h.fold;have nI:(aL s).com=s.now:=rfl;refine⟨⟨?_,f1,h.fit,h.asc, ?_, ?_,λc hc=>(by cases hc),λe=>(by cases e)⟩,nI,λhh=> ?_⟩
 ·rw[nI];exact d1
 ·rw[nI];exact h.fit
 ·rw[nI];exact h.asc
 ·exact hh.dh (s':=aL s) (wr:=⟨0,s.area,record 0 (s.commits+1) s.changes⟩) rfl rfl h.fold rfl s.now nI (by rw[dP];omega) hd.holds (λt _ ht=>hd.CD s.changes hc hl hs t ht) d1.holds
end
end J
namespace R
abbrev B:=J.B
def bI (n:Nat):B:=[UInt8.ofNat (n/16777216),UInt8.ofNat (n/65536),UInt8.ofNat (n/256),UInt8.ofNat n]
theorem dc (n:Nat):(bI n).length=4:=rfl
def xF:B→Nat
 |[a,b,c,d]=>a.toNat*16777216+b.toNat*65536+c.toNat*256+d.toNat
 |_=>0
theorem pY {n:Nat} (h:n<4294967296):xF (bI n)=n:=by
 simp only[bI,xF,UInt8.toNat_ofNat'];omega
theorem OV {a b:Nat} (ha:a<4294967296) (hb:b<4294967296) (h:bI a=bI b):a=b:=by
 rw[←pY ha,←pY hb,h]
theorem RL {a b:UInt8}:a<b↔a.toNat<b.toNat:=UInt8.lt_iff_toNat_lt
theorem my {a b:UInt8} {s t:B}:(a::s)<(b::t)↔a<b∨a=b∧s<t:=List.cons_lt_cons_iff
theorem le4 {a b:Nat} {x0 x1 x2 x3 y0 y1 y2 y3:Nat} (h1:x1<256) (h2:x2<256) (h3:x3<256) (k1:y1<256) (k2:y2<256) (k3:y3<256)
  (ha:a=x0*16777216+x1*65536+x2*256+x3) (hb:b=y0*16777216+y1*65536+y2*256+y3):
  (x0<y0∨x0=y0∧(x1<y1∨x1=y1∧(x2<y2∨x2=y2∧x3<y3)))↔a<b:=by
 omega
theorem Tf {a b:Nat} (ha:a<4294967296) (hb:b<4294967296):bI a<bI b↔a<b:=by
 have hn:¬(([]:B)<[]):=List.lt_irrefl _;simp only[bI,my,RL,←UInt8.toNat_inj,UInt8.toNat_ofNat',hn,and_false,or_false];exact le4 (by omega) (by omega) (by omega) (by omega) (by omega) (by omega) (by omega) (by omega)
theorem CF (p:B) {s t:B}:p++s<p++t↔s<t:=by
 induction p with
 |nil=>rfl
 |cons a p ih=>
  rw[List.cons_append,List.cons_append,my,ih];have:¬a<a:=(by simp);simp[this]
def own (nm:B):B:=nm++[0,65]
def recs (nm:B):B:=nm++[0,82]
def key (nm:B) (n:Nat):B:=recs nm++bI n
theorem mz (nm:B):(own nm).length=nm.length+2:=by simp[own]
theorem Fc (nm:B) (n:Nat):(key nm n).length=nm.length+6:=by simp[key,recs,dc]
def attr (rel:Bool) (size:Nat):B:=(if rel then 1 else 0)::bI size
abbrev Rows:=List (Nat×B)
def rowOf (nm:B) (r:Nat×B):B×B:=(key nm r.1,r.2)
def Wu (nm:B) (a:Option B) (rows:Rows):List (B×B):=match a with
 |none=>[]
 |some a=>(own nm,a)::rows.map (rowOf nm)
structure aQ (rows:Rows):Prop where
 asc:rows.Pairwise λa b=>a.1<b.1
 pos:∀r∈rows,1≤r.1∧r.1≤65536
def look:Rows→Nat→Option B
 |[],_=>none
 |r::t,n=>if r.1=n then some r.2 else look t n
def del (rows:Rows) (n:Nat):Rows:=rows.filter λr=> !(r.1==n)
def put (rows:Rows) (n:Nat) (b:B):Rows:=(del rows n).takeWhile (λr=>decide (r.1<n))++(n,b)::(del rows n).dropWhile (λr=>decide (r.1<n))
end R
end Go.Proofs.YtipljcmmokaokaaGreat
