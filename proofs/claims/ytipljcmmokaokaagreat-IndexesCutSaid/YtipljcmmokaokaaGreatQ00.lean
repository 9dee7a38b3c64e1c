
set_option linter.unusedVariables false
set_option linter.unusedSimpArgs false
namespace Go.Proofs.YtipljcmmokaokaaGreat
namespace J
abbrev B:=List UInt8
def leB:Nat->Nat->B
 |_,0=>[]
 |n,k+1=>UInt8.ofNat n::leB (n/256) k
def dH:B->Nat
 |[]=>0
 |b::l=>b.toNat+256*dH l
theorem eh:∀(k n:Nat),(leB n k).length=k
 |0,_=>rfl
 |k+1,n=>by simp[leB,eh k]
theorem Jc:∀(k n:Nat),dH (leB n k)=n%256^k
 |0,n=>by simp[leB,dH,Nat.mod_one]
 |k+1,n=>by
  have a:=Jc k (n/256);simp only[leB,dH,a,UInt8.toNat_ofNat'];have:n%256^(k+1)=n%256+256*(n/256%256^k):=by
   rw[Nat.pow_succ,Nat.mul_comm (256^k) 256,Nat.mod_mul]
  rw[this]
theorem mN:∀(l:B),dH l<256^l.length
 |[]=>by simp[dH]
 |b::l=>by
  have c:=mN l;have a:=b.toNat_lt;simp only[dH,List.length_cons,Nat.pow_succ];omega
theorem Cx:∀(k n:Nat),leB n (k+1)=leB n k++[UInt8.ofNat (n/256^k)]
 |0,n=>by simp[leB]
 |k+1,n=>by
  have a:=Cx k (n/256);show UInt8.ofNat n::leB (n/256) (k+1)=_;rw[a,Nat.div_div_eq_div_mul,show 256*256^k=256^(k+1) by rw[Nat.pow_succ,Nat.mul_comm]];rfl
def lf (s:Nat) (x:UInt8):Nat:=((s^^^x.toNat)*16777619)%4294967296
def bP (l:B):Nat:=l.foldl lf 2166136261
theorem NV (l:B) (x:UInt8):bP (l++[x])=lf (bP l) x:=by
 unfold bP;rw[List.foldl_append,List.foldl_cons,List.foldl_nil]
theorem FI (s:Nat) (x:UInt8):lf s x<4294967296:=by unfold lf;omega
theorem Jd:∀(l:B) (s:Nat),s<4294967296->l.foldl lf s<4294967296
 |[],_,h=>h
 |x::t,s,_=>Jd t _ (FI s x)
theorem zQ (l:B):bP l<4294967296:=Jd l 2166136261 (by omega)
structure cd where
 key:B
 val:B
 gone:Bool
structure cS where
 h0:B
 h1:B
 a0:B
 a1:B
structure Wr where
 kind:Nat
 idx:Nat
 bs:B
structure St where
 opn:Bool
 now:List (B×B)
 changes:List cd
 size:Nat
 spoilt:Bool
 was:List (B×B)
 commits:Nat
 gen:Nat
 area:Nat
 side:Nat
 base:cS
 disk:cS
 writes:List Wr
 logged:Nat
def Zf:cS:=⟨[],[],[],[]⟩
def new:St:=⟨false,[],[],0,false,[],0,0,0,1,Zf,Zf,[],0⟩
def look:List (B×B)->B->Option B
 |[],_=>none
 |p::t,k=>if p.1=k then some p.2 else look t k
def del (l:List (B×B)) (k:B):List (B×B):=l.filter λp=> !(p.1==k)
def ins (l:List (B×B)) (k v:B):List (B×B):=(del l k).takeWhile (λp=>decide (p.1<k))++(k,v)::(del l k).dropWhile (λp=>decide (p.1<k))
def cd.len (c:cd):Nat:=3+c.key.length+if c.gone then 0 else 4+c.val.length
def cd.enc (c:cd):B:=if c.gone then 0::leB c.key.length 2++c.key else 1::leB c.key.length 2++c.key++leB c.val.length 4++c.val
def encs (l:List cd):B:=l.flatMap cd.enc
def body (kind number:Nat) (l:List cd):B:=UInt8.ofNat kind::leB number 4++leB (encs l).length 4++encs l
def record (kind number:Nat) (l:List cd):B:=body kind number l++leB (bP (body kind number l)) 4
def cS.area (m:cS) (i:Nat):B:=if i=0 then m.a0 else m.a1
def cS.head (m:cS) (i:Nat):B:=if i=0 then m.h0 else m.h1
def cS.bC (m:cS) (i:Nat) (b:B):cS:=if i=0 then {m with a0:=b}else {m with a1:=b}
def cS.qE (m:cS) (i:Nat) (b:B):cS:=if i=0 then {m with h0:=b}else {m with h1:=b}
def done (m:cS) (w:Wr) (many:Nat):cS:=
 if w.kind=0 then m.bC w.idx (m.area w.idx++w.bs.take many)
 else if w.kind=1 then m.bC w.idx []
 else m.qE w.idx (w.bs.take many++(m.head w.idx).drop many)
def write (s:St) (w:Wr):St:={s with writes:=s.writes++[w],logged:=s.logged+w.bs.length,disk:=done s.disk w w.bs.length}
def values (l:List (B×B)):List cd:=l.map λp=>⟨p.1,p.2,false⟩
def apply(s:St) (c:cd):St:={s with now:=if c.gone then del s.now c.key else ins s.now c.key c.val}
def cW (s:St):St:={s with opn:=true,spoilt:=false,changes:=[],size:=13,was:=s.now}
def add (s:St) (c:cd):St×Int:=
 if 4194304 - s.size<c.len then({s with spoilt:=true},9)else(apply {s with changes:=s.changes++[c],size:=s.size+c.len} c,0)
def put (s:St) (k v:B):St×Int:=
 if s.opn=false then(s,6)else if k=[]\/300<k.length then(s,1)else if 8192<v.length then(s,3)else add s ⟨k,v,false⟩
def delete (s:St) (k:B):St×Int:=
 if s.opn=false then(s,6)else if look s.now k=none then(s,7)else add s ⟨k,[],true⟩
def cM (s:St):St:={s with opn:=false,changes:=[],now:=s.was,was:=[]}
def latest:Nat:=4611686018427387904
def part (gen area:Nat):B:=leB gen 8++leB area 4
def KG (s:St) (now:List (B×B)):St:=
 let s1:=write s ⟨1,1 - s.area,[]⟩;let s2:=write s1 ⟨0,1 - s.area,record 1 s.commits (values now)⟩;let s3:=write {s2 with side:=1 - s.side} ⟨2,1 - s.side,part (s.gen+1) (1 - s.area)++part (s.gen+1) (1 - s.area)⟩
 {s3 with gen:=s.gen+1,area:=1 - s.area}
def KH (s:St) (now:List (B×B)):Bool:=
 decide ((record 1 s.commits (values now)).length<=4194304/\s.gen≠latest/\(record 1 s.commits (values now)).length+24<=16777216 - s.logged)
def aK (s:St):St:=
 let s1:=write s ⟨0,s.area,record 0 (s.commits+1) s.changes⟩
 {s1 with commits:=s.commits+1,opn:=false,changes:=[],was:=[]}
def fits (s:St) (b:B):Bool:=decide ((s.disk.area s.area).length+b.length<=4194304)
def ir (s:St):St×Int×Int:=
 if fits s (record 0 (s.commits+1) s.changes)&&decide ((record 0 (s.commits+1) s.changes).length<=16777216 - s.logged)then(aK s,s.commits+1,0)else(s,0,9)
def dz (s:St):St×Int×Int:=
 if s.opn=false then(s,0,6)else if s.spoilt then(s,0,9)
 else if fits s (record 0 (s.commits+1) s.changes)then ir s
 else if KH s s.was then ir (KG s s.was)else(s,0,9)
def aW (m:cS) (l:List Wr):cS:=l.foldl (λm w=>done m w w.bs.length) m
def cut (s:St) (writes FJ:Int):Option cS:=
 if writes<0\/(s.writes.length:Int)<writes\/FJ<0 then none
 else match s.writes[writes.toNat]? with
  |none=>if FJ=0 then some (aW s.base s.writes)else none
  |some w=>if(w.bs.length:Int)<FJ then none else
    let m:=aW s.base (s.writes.take writes.toNat)
    some (if FJ=0 then m else done m w FJ.toNat)
def valid (b:B):Option (Nat×Nat):=
 if b.length=24/\b.take 12=b.drop 12/\dH ((b.take 12).drop 8)<=1/\dH (b.take 8)<=latest then some (dH (b.take 8),dH ((b.take 12).drop 8))else none
def chgOf (b:B):Option (cd×B):=
 if b.length<3\/1<(b.headD 0).toNat then none
 else
  let n:=dH ((b.take 3).drop 1);let r:=b.drop 3
  if n=0\/300<n\/r.length<n then none
  else if b.headD 0=0 then some (⟨r.take n,[],true⟩,r.drop n)
  else
   let q:=r.drop n
   if q.length<4\/8192<dH (q.take 4)\/q.length - 4<dH (q.take 4)then none
   else some (⟨r.take n,(q.drop 4).take (dH (q.take 4)),false⟩,q.drop (4+dH (q.take 4)))
theorem lg {b:B} {c:cd} {r:B} (h:chgOf b=some (c,r)):r.length<b.length:=by
 unfold chgOf at h;split at h
 ·cases h
 ·dsimp only at h;split at h
  ·cases h
  ·split at h
   ·injection h with h;injection h with _ h;subst h;simp;omega
   ·split at h
    ·cases h
    ·injection h with h;injection h with _ h;subst h;simp;omega
def aX (b:B):Option (List cd):=
 if b=[]then some []else
  match h:chgOf b with
  |none=>none
  |some (c,r)=>(aX r).map (c:: ·)
termination_by b.length
decreasing_by exact lg h
def bA:List (B×B)->List cd->Option (List (B×B))
 |m,[]=>some m
 |m,c::t=>if c.gone then(if look m c.key=none then none else bA (del m c.key) t)else bA (ins m c.key c.val) t
inductive acM where
 |stop
 |bad (e:Int)
 |took (n commits:Nat) (now:List (B×B))
def take (gen commits:Nat) (now:List (B×B)) (b:B) (first:Bool):acM:=
 if b.length<9\/b.length - 13<dH ((b.take 9).drop 5)\/b.length<13 then .stop
 else
  let n:=9+dH ((b.take 9).drop 5)
  if bP (b.take n)≠dH ((b.drop n).take 4)then .bad 16
  else
   let number:=dH ((b.take 5).drop 1);let ok:=if first=true/\0<gen then b.headD 0=1 else b.headD 0=0/\number=commits+1
   match aX ((b.take n).drop 9)with
   |none=> .bad 4
   |some l=>if¬ok then .bad 4 else match bA now l with
    |none=> .bad 4
    |some now'=> .took (n+4) number now'
def jv (gen:Nat) (b:B):Nat->Nat->Nat->List (B×B)->Except Int (Nat×Nat×List (B×B))
 |0,at_,commits,now=> .ok (at_,commits,now)
 |fuel+1,at_,commits,now=>
  match take gen commits now (b.drop at_) (at_==0)with
  | .stop=> .ok (at_,commits,now)
  | .bad e=> .error e
  | .took n NW now'=>jv gen b fuel (at_+n) NW now'
def current (h0 h1:B):Nat×Nat×Nat:=
 match valid h0,valid h1 with
 |none,none=>(0,0,1)
 |some (g,a),none=>(g,a,0)
 |none,some (g,a)=>(g,a,1)
 |some (g,a),some (g',a')=>if g<g' then(g',a',1)else(g,a,0)
def recover (m:cS):Except Int St:=
 if 8388608<max m.a0.length m.a1.length then .error 3
 else
  let c:=current m.h0 m.h1;let b:=m.area c.2.1
  match jv c.1 b (b.length+1) 0 0 []with
  | .error e=> .error e
  | .ok (at_,commits,now)=>
   let base:={(m.bC c.2.1 (b.take at_))with h0:=if valid m.h0=none then []else m.h0,h1:=if valid m.h1=none then []else m.h1}
   .ok ⟨false,now,[],0,false,[],commits,c.1,c.2.1,c.2.2,base,base,[],0⟩
end J
namespace J
def sA (m:List (B×B)):Prop:=m.Pairwise λa b=>a.1<b.1
theorem lt_irrefl (a:B):¬a<a:=List.lt_irrefl a
theorem NX (a b:B) (h1:¬a<b) (c:a≠b):b<a:=by
 rcases Classical.em (b<a)with h|h
 ·exact h
 ·exact absurd (List.le_antisymm (List.not_lt.1 h) (List.not_lt.1 h1)) c
theorem eI:∀(m:List (B×B)) (k v:B),look m k=some v->(k,v)∈m
 |[],k,v,h=>by simp[look]at h
 |p::t,k,v,h=>by
  unfold look at h;by_cases e:p.1=k
  ·rw[if_pos e]at h;injection h with h;subst e h;exact List.mem_cons_self
  ·rw[if_neg e]at h;exact List.mem_cons_of_mem _ (eI t k v h)
theorem eU:∀(m:List (B×B)) (k v:B),sA m->(k,v)∈m->look m k=some v
 |[],_,_,_,h=>by simp at h
 |p::t,k,v,ha,h=>by
  have a:=List.pairwise_cons.1 ha;unfold look;rcases List.mem_cons.1 h with h|h
  ·subst h;simp
  ·have:=a.1 _ h;have b:p.1≠k:=(by intro e;rw[e]at this;exact lt_irrefl _ this);rw[if_neg b];exact eU t k v a.2 h
theorem Cy (a b:List (B×B)) (k:B):look (a++b) k=(look a k).or (look b k):=by
 induction a with
 |nil=>simp[look]
 |cons p t c=>
  simp only[List.cons_append,look];by_cases h:p.1=k
  ·simp[h]
  ·simp[h,c]
theorem bX (m:List (B×B)) (k b:B):look (del m k) b=if b=k then none else look m b:=by
 induction m with
 |nil=>simp[del,look]
 |cons p t c=>
  unfold del at*;rw[List.filter_cons];by_cases h:p.1=k
  ·rw[if_neg (by simp[h]),c];by_cases a:b=k
   ·simp[a]
   ·simp only[if_neg a,look];rw[if_neg (by rw[h];exactλe=>a e.symm)]
  ·rw[if_pos (by simp[h])];simp only[look,c];by_cases a:b=k
   ·subst a;simp[h]
   ·simp[a]
theorem nN {m:List (B×B)} (h:sA m) (k:B):sA (del m k):=List.Pairwise.filter _ h
theorem vE (m:List (B×B)) (k:B):m.takeWhile (λp=>decide (p.1<k))++m.dropWhile (λp=>decide (p.1<k))=m:=List.takeWhile_append_dropWhile
theorem cz (m:List (B×B)) (k v a:B):look (ins m k v) a=if a=k then some v else look m a:=by
 unfold ins;rw[Cy];have hd:look (del m k) k=none:=by rw[bX,if_pos rfl]
 have c:=vE (del m k) k;have b:(look ((del m k).takeWhile λp=>decide (p.1<k)) a).or (look ((del m k).dropWhile λp=>decide (p.1<k)) a)=look (del m k) a:=by rw[<-Cy,c]
 by_cases h:a=k
 ·subst h;rw[if_pos rfl];have h1:look ((del m a).takeWhile λp=>decide (p.1<a)) a=none:=by
   rw[hd]at b;cases hq:look ((del m a).takeWhile λp=>decide (p.1<a)) a with
   |none=>rfl
   |some x=>rw[hq]at b;simp at b
  rw[h1];simp[look]
 ·rw[if_neg h];simp only[look];rw[if_neg (by exactλe=>h e.symm),b,bX,if_neg h]
theorem lh {m:List (B×B)} (h:sA m) (k v:B):sA (ins m k v):=by
 have hd:=nN h k;unfold ins sA;have g:=vE (del m k) k;have d:(((del m k).takeWhile λp=>decide (p.1<k))++((del m k).dropWhile λp=>decide (p.1<k))).Pairwise λa b=>a.1<b.1:=by rw[g];exact hd
 rw[List.pairwise_append]at d|-;obtain⟨h1,c,j⟩:=d;have o:∀a∈(del m k).takeWhile (λp=>decide (p.1<k)),a.1<k:=by
  intro a ha;have:=List.all_eq_true.1 (List.all_takeWhile (p:=λp:B×B=>decide (p.1<k)) (l:=del m k)) a ha
  simpa using this
 have n:∀a∈(del m k).dropWhile (λp=>decide (p.1<k)),k<a.1:=by
  intro a ha;have r:a.1≠k:=by
   have f:a∈del m k:=(by rw[<-g];exact List.mem_append_right _ ha);unfold del at f;have:=(List.mem_filter.1 f).2
   simpa using this
  cases hq:(del m k).dropWhile (λp=>decide (p.1<k))with
  |nil=>rw[hq]at ha;simp at ha
  |cons x t=>
   have i:¬x.1<k:=by
    have:=List.head_dropWhile_not (p:=λp:B×B=>decide (p.1<k)) (l:=del m k) (by rw[hq];simp);simp only[hq,List.head_cons]at this
    simpa using this
   have s:k<=x.1:=List.not_lt.1 i;rw[hq]at ha c;rcases List.mem_cons.1 ha with e|e
   ·subst e;exact NX _ _ i r
   ·exact List.lt_of_le_of_lt s ((List.pairwise_cons.1 c).1 a e)
 refine⟨h1,List.pairwise_cons.2 ⟨λa ha=>n a ha,c⟩,λa ha b q=> ?_⟩;rcases List.mem_cons.1 q with e|e
 ·subst e;exact o a ha
 ·exact j a ha b e
theorem nO:sA []:=List.Pairwise.nil
theorem qF (m:List (B×B)) (k:B):(del m k).length<=m.length:=List.length_filter_le _ _
theorem lj (m:List (B×B)) (k v:B):(ins m k v).length=(del m k).length+1:=by
 have:=congrArg List.length (vE (del m k) k);rw[List.length_append]at this;unfold ins;rw[List.length_append,List.length_cons];omega
end J
end Go.Proofs.YtipljcmmokaokaaGreat
namespace Go.Proofs.YtipljcmmokaokaaGreat.J
theorem zR (c:cd):c.enc.length=c.len:=by
 unfold cd.enc cd.len;cases c.gone<;>simp[eh]<;>omega
theorem dw (c:cd) (L:List cd):(encs (c::L)).length=c.len+(encs L).length:=by simp[encs,zR]
theorem gK (L L':List cd):(encs (L++L')).length=(encs L).length+(encs L').length:=by simp[encs]
theorem gL (p:B×B) (m:List (B×B)):values (p::m)=⟨p.1,p.2,false⟩::values m:=rfl
theorem vF (m m':List (B×B)):values (m++m')=values m++values m':=by simp[values]
theorem Cz (f:B×B->Bool) (m:List (B×B)):(encs (values (m.filter f))).length<=(encs (values m)).length:=by
 induction m with
 |nil=>exact Nat.le_refl _
 |cons p t a=>
  rw[List.filter_cons,gL,dw];split
  ·rw[gL,dw];omega
  ·omega
theorem vG (m:List (B×B)) (k:B):(encs (values (del m k))).length<=(encs (values m)).length:=Cz _ m
theorem CA (m:List (B×B)) (k v:B):(encs (values (ins m k v))).length<=(encs (values m)).length+(7+k.length+v.length):=by
 have h:=vG m k;unfold ins;have e:(encs (values (del m k))).length=(encs (values ((del m k).takeWhile (λp=>decide (p.1<k))))).length+(encs (values ((del m k).dropWhile (λp=>decide (p.1<k))))).length:=by
  rw[<-gK,<-vF,List.takeWhile_append_dropWhile]
 rw[vF,gK,gL,dw];simp only[cd.len];simp;omega
theorem pB (m:List (B×B)):m.length<=(encs (values m)).length:=by
 induction m with
 |nil=>exact Nat.le_refl _
 |cons p t a=>
  rw[gL,dw,List.length_cons];simp only[cd.len];omega
end Go.Proofs.YtipljcmmokaokaaGreat.J
namespace Go.Proofs.YtipljcmmokaokaaGreat
namespace J
structure cd.Fit (c:cd):Prop where
 k0:c.key≠[]
 k:c.key.length<=300
 v:c.val.length<=8192
 g:c.gone=true->c.val=[]
theorem fL (n k:Nat) (r:B) (h:n<256^k):dH ((leB n k++r).take k)=n:=by
 rw[List.take_left' (eh k n),Jc,Nat.mod_eq_of_lt h]
theorem KJ (c:cd) (h:c.Fit) (r:B):chgOf (c.enc++r)=some (c,r):=by
 obtain⟨key,val,gone⟩:=c;have k0:=h.k0;have f:=h.k;have v1:=h.v;have g1:=h.g;simp only at k0 f v1 g1;have g:key.length≠0:=λe=>k0 (List.eq_nil_of_length_eq_zero e);have b:∀(x:UInt8) (t:B),dH (((x::(leB key.length 2++(key++t)):B).take 3).drop 1)=key.length:=by
  intro x t;show dH ((leB key.length 2++(key++t)).take 2)=_;exact fL _ _ _ (by omega)
 have hd:∀(x:UInt8) (t:B),(x::(leB key.length 2++(key++t)):B).drop 3=key++t:=by
  intro x t;show(leB key.length 2++(key++t)).drop 2=_;exact List.drop_left' (eh 2 _)
 have a:∀(x:UInt8) (t:B),(x::(leB key.length 2++(key++t)):B).length=3+(key.length+t.length):=by
  intro x t;simp[eh];omega
 cases gone with
 |true=>
  obtain rfl:=g1 rfl;have e:cd.enc ⟨key,[],true⟩++r=0::(leB key.length 2++(key++r)):=(by simp[cd.enc]);rw[e];unfold chgOf;rw[if_neg (by rw[a];simp<;>omega)];dsimp only;rw[b,hd,if_neg (by rw[List.length_append];omega),if_pos (show((0::(leB key.length 2++(key++r)):B).headD 0=0)from rfl),List.take_left' rfl,List.drop_left' rfl]
 |false=>
  have e:cd.enc ⟨key,val,false⟩++r=1::(leB key.length 2++(key++(leB val.length 4++(val++r)))):=(by simp[cd.enc]);rw[e];unfold chgOf;rw[if_neg (by rw[a];simp<;>omega)];dsimp only;have d:dH ((leB val.length 4++(val++r)).take 4)=val.length:=fL _ _ _ (by omega);rw[b,hd,if_neg (by rw[List.length_append];omega),if_neg (by simp),List.take_left' rfl,List.drop_left' rfl,d];rw[if_neg (by rw[List.length_append,eh,List.length_append];omega),List.drop_left' (eh 4 _),List.take_left' rfl,<-List.drop_drop,List.drop_left' (eh 4 _),List.drop_left' rfl]
theorem NY:encs []=[]:=rfl
theorem zS (c:cd) (L:List cd):encs (c::L)=c.enc++encs L:=rfl
theorem jP (c:cd) (r:B):c.enc++r≠[]:=by
 intro e;have:=congrArg List.length e;rw[List.length_append,zR]at this;simp[cd.len]at this
theorem mO:∀(L:List cd),(∀c∈L,c.Fit)->aX (encs L)=some L
 |[],_=>by rw[NY];unfold aX;simp
 |c::L,h=>by
  have d:=mO L (λc b=>h c (List.mem_cons_of_mem _ b));rw[zS];unfold aX;rw[if_neg (jP c _)];have a:=KJ c (h c List.mem_cons_self) (encs L);split
  ·rename_i hn;rw[a]at hn;cases hn
  ·rename_i c' r hs
   rw[a]at hs;injection hs with hs;injection hs with h1 h2;subst h1 h2;rw[d];rfl
theorem qG (kind a:Nat) (L:List cd):(body kind a L).length=9+(encs L).length:=by simp[body,eh];omega
theorem ei (kind a:Nat) (L:List cd):(record kind a L).length=13+(encs L).length:=by
 rw[record,List.length_append,qG,eh];omega
theorem vH (kind a:Nat) (L:List cd) (r:B) (c:a<4294967296) (b:(encs L).length<4294967296):
  (body kind a L++r).headD 0=UInt8.ofNat kind/\dH (((body kind a L++r).take 5).drop 1)=a/\dH (((body kind a L++r).take 9).drop 5)=(encs L).length/\((body kind a L++r).take (9+(encs L).length)).drop 9=encs L:=by
 have e:body kind a L++r=UInt8.ofNat kind::(leB a 4++(leB (encs L).length 4++(encs L++r))):=by simp[body]
 refine⟨by rw[e];rfl, ?_, ?_, ?_⟩
 ·rw[e];show dH ((leB a 4++_).take 4)=_;exact fL _ _ _ (by omega)
 ·rw[e];show dH (((leB a 4++(leB (encs L).length 4++(encs L++r))).take 8).drop 4)=_;rw[List.drop_take,List.drop_left' (eh 4 _)];exact fL _ _ _ (by omega)
 ·rw[List.take_left' (qG kind a L)];unfold body;show((leB a 4++leB (encs L).length 4)++encs L).drop 8=_;exact List.drop_left' (by simp[eh])
theorem CB (gen commits:Nat) (now:List (B×B)) (kind a:Nat) (L:List cd) (r:B) (first:Bool) (l:a<4294967296) (j:(encs L).length<4294967296) (i:∀c∈L,c.Fit) (b:if first=true/\0<gen then kind=1 else kind=0/\a=commits+1) (now':List (B×B)) (ha:bA now L=some now'):
  take gen commits now (record kind a L++r) first= .took (record kind a L).length a now':=by
 have e:record kind a L++r=body kind a L++(leB (bP (body kind a L)) 4++r):=by simp[record]
 obtain⟨h1,f,d,g⟩:=vH kind a L (leB (bP (body kind a L)) 4++r) l j;have k:(record kind a L++r).length=13+(encs L).length+r.length:=by rw[List.length_append,ei]
 have n:=zQ (body kind a L);unfold take;rw[if_neg (by rw[k,e,d];omega)];dsimp only;rw[e,d,g,f,h1];rw[List.take_left' (qG kind a L),List.drop_left' (qG kind a L),fL _ _ _ (by omega),if_neg (by simp),mO L i];dsimp only;rw[ha];have m:(if first=true/\0<gen then UInt8.ofNat kind=1 else UInt8.ofNat kind=0/\a=commits+1):=by
  split at b
  ·rename_i h;rw[if_pos h,b];rfl
  ·rename_i h;rw[if_neg h,b.1];exact⟨rfl,b.2⟩
 rw[if_neg (not_not_intro m),ei];show acM.took (9+(encs L).length+4) a now'=_
 congr 1;omega
theorem KL (gen commits:Nat) (now:List (B×B)) (kind a:Nat) (L:List cd) (t:Nat) (first:Bool) (h:a<4294967296) (f:(encs L).length<4294967296) (i:t<(record kind a L).length):
  take gen commits now ((record kind a L).take t) first= .stop:=by
 rw[ei]at i;have g:((record kind a L).take t).length=t:=by rw[List.length_take,ei];omega
 unfold take;rw[if_pos];rw[g];by_cases d:t<9
 ·exact .inl d
 ·obtain⟨h1,j,b,k⟩:=vH kind a L (leB (bP (body kind a L)) 4) h f;have e:((record kind a L).take t).take 9=(record kind a L).take 9:=(by rw[List.take_take,Nat.min_eq_left (by omega)]);rw[e];have c:dH (((record kind a L).take 9).drop 5)=(encs L).length:=b;rw[c];omega
theorem take_nil (gen commits:Nat) (now:List (B×B)) (first:Bool):take gen commits now [] first= .stop:=by
 unfold take;rw[if_pos (.inl (by simp))]
theorem nP {gen commits:Nat} {now:List (B×B)} {b:B} {first:Bool} {n c':Nat} {now':List (B×B)}:take gen commits now b first= .took n c' now'↔
  ¬(b.length<9\/b.length - 13<dH ((b.take 9).drop 5)\/b.length<13)/\bP (b.take (9+dH ((b.take 9).drop 5)))=dH ((b.drop (9+dH ((b.take 9).drop 5))).take 4)/\
  (∃L,aX ((b.take (9+dH ((b.take 9).drop 5))).drop 9)=some L/\(if first=true/\0<gen then b.headD 0=1 else b.headD 0=0/\dH ((b.take 5).drop 1)=commits+1)/\bA now L=some now')/\
  n=9+dH ((b.take 9).drop 5)+4/\c'=dH ((b.take 5).drop 1):=by
 unfold take;by_cases h1:b.length<9\/b.length - 13<dH ((b.take 9).drop 5)\/b.length<13
 ·rw[if_pos h1];constructor
  ·intro h;cases h
  ·intro h;exact absurd h1 h.1
 rw[if_neg h1];dsimp only;by_cases c:bP (b.take (9+dH ((b.take 9).drop 5)))=dH ((b.drop (9+dH ((b.take 9).drop 5))).take 4)
 ·rw[if_neg (not_not_intro c)];cases hL:aX ((b.take (9+dH ((b.take 9).drop 5))).drop 9)with
  |none=>
   dsimp only;constructor
   ·intro h;cases h
   ·rintro⟨_,_,⟨L,h,_⟩,_⟩;cases h
  |some L=>
   dsimp only;by_cases d:(if first=true/\0<gen then b.headD 0=1 else b.headD 0=0/\dH ((b.take 5).drop 1)=commits+1)
   ·rw[if_neg (not_not_intro d)];cases hA:bA now L with
    |none=>
     dsimp only;constructor
     ·intro h;cases h
     ·rintro⟨_,_,⟨L',h,_,a⟩,_⟩;injection h with h;subst h;rw[hA]at a;cases a
    |some m=>
     dsimp only;constructor
     ·intro h;injection h with e1 e2 e3;subst e1 e2 e3;exact⟨h1,c,⟨L,rfl,d,hA⟩,rfl,rfl⟩
     ·rintro⟨_,_,⟨L',h,_,a⟩,rfl,rfl⟩;injection h with h;subst h;rw[hA]at a;injection a with a;rw[a]
   ·rw[if_pos d];constructor
    ·intro h;cases h
    ·rintro⟨_,_,⟨L',h,a,_⟩,_⟩;exact absurd a d
 ·rw[if_pos c];constructor
  ·intro h;cases h
  ·intro h;exact absurd h.2.1 c
theorem mP {gen commits:Nat} {now:List (B×B)} {b b':B} {first:Bool} {n c':Nat} {now':List (B×B)} (h:take gen commits now b first= .took n c' now') (c:b'.take n=b.take n):take gen commits now b' first= .took n c' now'/\13<=n/\n<=b.length:=by
 obtain⟨h0,p,e,o,g⟩:=nP.1 h;generalize m:dH ((b.take 9).drop 5)=len at*;have d:n<=b.length:=by omega
 have f:n<=b'.length:=by
  have:=congrArg List.length c;rw[List.length_take,List.length_take]at this;omega
 have hcut:∀k,k<=n->b'.take k=b.take k:=by
  intro k l;have:=congrArg (List.take k) c
  rwa [List.take_take,List.take_take,Nat.min_eq_left l]at this
 have i:(b'.drop (9+len)).take 4=(b.drop (9+len)).take 4:=by
  have a:∀(x:B),(x.drop (9+len)).take 4=(x.take (9+len+4)).drop (9+len):=λx=>by rw[List.drop_take];congr 1;omega
  rw[a,a,hcut _ (by omega)]
 have j:b'.headD 0=b.headD 0:=by
  have:=hcut 1 (by omega);cases b with
  |nil=>simp at d;omega
  |cons x t=>cases b' with
   |nil=>simp at f;omega
   |cons y q=>simpa using this
 refine⟨nP.2 ?_,by omega,d⟩;rw[hcut 9 (by omega),m,hcut (9+len) (by omega),i,hcut 5 (by omega),j];exact⟨by omega,p,e,o,g⟩
end J
namespace J
inductive Reads (gen:Nat) (b:B):Nat->Nat->List (B×B)->Nat->Nat->List (B×B)->Prop where
 |refl (at_ c:Nat) (now:List (B×B)):Reads gen b at_ c now at_ c now
 |step {at_ c:Nat} {now:List (B×B)} {n c1:Nat} {NZ:List (B×B)} {at' c':Nat} {now':List (B×B)} (h:take gen c now (b.drop at_) (at_==0)= .took n c1 NZ) (t:Reads gen b (at_+n) c1 NZ at' c' now'):Reads gen b at_ c now at' c' now'
theorem Reads.le {gen:Nat} {b:B} {at_ c:Nat} {now:List (B×B)} {a c':Nat} {now':List (B×B)} (h:Reads gen b at_ c now a c' now'):at_<=a/\(at_<=b.length->a<=b.length):=by
 induction h with
 |refl=>exact⟨Nat.le_refl _,id⟩
 |step h t e=>
  obtain⟨_,h1,d⟩:=mP h rfl;rw[List.length_drop]at d;exact⟨by omega,λh=>e.2 (by omega)⟩
theorem Reads.trans {gen:Nat} {b:B} {a c d c' e f:Nat} {m m' g:List (B×B)} (h:Reads gen b a c m d c' m') (k:Reads gen b d c' m' e f g):Reads gen b a c m e f g:=by
 induction h with
 |refl=>exact k
 |step h t i=>exact .step h (i k)
theorem Reads.ext {gen:Nat} {b b':B} {a c d c':Nat} {m m':List (B×B)} (h:Reads gen b a c m d c' m') (e:b'.take d=b.take d):Reads gen b' a c m d c' m':=by
 induction h with
 |refl=>exact .refl _ _ _
 | @step at_ c now n c1 k g c' now' h t j=>
  have i:=t.le.1;have e2:(b'.drop at_).take n=(b.drop at_).take n:=by
   have f:∀(x:B),(x.drop at_).take n=((x.take g).take (at_+n)).drop at_:=λx=>by rw[List.take_take,Nat.min_eq_left i,List.drop_take];congr 1;omega
   rw[f,f,e]
  exact .step (mP h e2).1 (j e)
theorem oA {gen:Nat} {b:B} {a c e c':Nat} {m m':List (B×B)} (h:Reads gen b a c m e c' m') (f:take gen c' m' (b.drop e) (e==0)= .stop):∀d,b.length<a+d->a<=b.length->jv gen b d a c m= .ok (e,c',m'):=by
 induction h with
 |refl=>
  intro d i _;cases d with
  |zero=>rfl
  |succ k=>unfold jv;rw[f]
 | @step at_ c now n c1 p l c' now' h t j=>
  intro d i o;obtain⟨_,h1,g⟩:=mP h rfl;rw[List.length_drop]at g;cases d with
  |zero=>omega
  |succ k=>
   unfold jv;rw[h];exact j f k (by omega) (by omega)
theorem CC {gen:Nat} {b:B} {a c f c':Nat} {m m':List (B×B)} {e:Int} (h:Reads gen b a c m f c' m') (g:take gen c' m' (b.drop f) (f==0)= .bad e):∀d,b.length<a+d->a<=b.length->jv gen b d a c m= .error e:=by
 induction h with
 |refl=>
  intro d j l;cases d with
  |zero=>omega
  |succ k=>unfold jv;rw[g]
 | @step at_ c now n c1 q p c' now' h t o=>
  intro d j l;obtain⟨_,h1,i⟩:=mP h rfl;rw[List.length_drop]at i;cases d with
  |zero=>omega
  |succ k=>
   unfold jv;rw[h];exact o g k (by omega) (by omega)
def cS.Has (q:Prop) (m:cS) (gen area:Nat) (commits:Nat) (now:List (B×B)):Prop:=
 ∃at_,Reads gen (m.area area) 0 0 [] at_ commits now/\take gen commits now ((m.area area).drop at_) (at_==0)= .stop/\(q->0<gen->0<at_)
structure cS.Holds (q:Prop) (m:cS) (commits:Nat) (now:List (B×B)):Prop where
 a0:m.a0.length<=8388608
 a1:m.a1.length<=8388608
 has:cS.Has q m (current m.h0 m.h1).1 (current m.h0 m.h1).2.1 commits now
def recovered (m:cS) (at_ commits:Nat) (now:List (B×B)):St:=
 let c:=current m.h0 m.h1;let base:={(m.bC c.2.1 ((m.area c.2.1).take at_))with h0:=if valid m.h0=none then []else m.h0,h1:=if valid m.h1=none then []else m.h1}
 ⟨false,now,[],0,false,[],commits,c.1,c.2.1,c.2.2,base,base,[],0⟩
theorem cS.Holds.recover {q:Prop} {m:cS} {commits:Nat} {now:List (B×B)} (h:cS.Holds q m commits now):∃at_,recover m= .ok (recovered m at_ commits now)/\at_<=(m.area (current m.h0 m.h1).2.1).length/\Reads (current m.h0 m.h1).1 (m.area (current m.h0 m.h1).2.1) 0 0 [] at_ commits now/\(q->0<(current m.h0 m.h1).1->0<at_):=by
 obtain⟨at_,h1,a,b⟩:=h.has;refine⟨at_, ?_,h1.le.2 (Nat.zero_le _),h1,b⟩;unfold J.recover;have:=h.a0;have:=h.a1;rw[if_neg (by omega)];dsimp only;rw[oA h1 a _ (by omega) (Nat.zero_le _)];rfl
end J
namespace J
def om (m:List (B×B)):Prop:=∀p∈m,p.1≠[]/\p.1.length<=300/\p.2.length<=8192
theorem eJ (m:List (B×B)) (c:cd) (t:List cd):bA m (c::t)=if c.gone then(if look m c.key=none then none else bA (del m c.key) t)else bA (ins m c.key c.val) t:=rfl
theorem fM:∀(L L':List cd) (m:List (B×B)),bA m (L++L')=(bA m L).bind λm'=>bA m' L'
 |[],L',m=>rfl
 |c::L,L',m=>by
  rw[List.cons_append,eJ,eJ];split
  ·split
   ·rfl
   ·exact fM L L' _
  ·exact fM L L' _
theorem uS {m:List (B×B)} (h:om m) (k:B):om (del m k):=λp a=>h p (List.mem_filter.1 a).1
theorem Je {m:List (B×B)} (h:om m) (k v:B) (h0:k≠[]) (h1:k.length<=300) (b:v.length<=8192):om (ins m k v):=by
 intro p a;unfold ins at a;rcases List.mem_append.1 a with a|a
 ·exact uS h k p (List.takeWhile_subset _ a)
 ·rcases List.mem_cons.1 a with rfl|a
  ·exact⟨h0,h1,b⟩
  ·exact uS h k p (List.dropWhile_subset _ a)
theorem uT:om []:=λp a=>by cases a
theorem ll:∀(L:List cd) (m m':List (B×B)),(∀c∈L,c.Fit)->om m->sA m->bA m L=some m'->om m'/\sA m'
 |[],m,m',_,h,ha,e=>by injection e with e;subst e;exact⟨h,ha⟩
 |c::L,m,m',hL,h,ha,e=>by
  have a:=hL c List.mem_cons_self;have b:∀c∈L,c.Fit:=λc a=>hL c (List.mem_cons_of_mem _ a);rw[eJ]at e;split at e
  ·split at e
   ·cases e
   ·exact ll L _ _ b (uS h _) (nN ha _) e
  ·exact ll L _ _ b (Je h _ _ a.k0 a.k a.v) (lh ha _ _) e
theorem KM {b:B} {c:cd} {r:B} (h:chgOf b=some (c,r)):c.Fit:=by
 unfold chgOf at h;split at h
 ·cases h
 ·dsimp only at h;split at h
  ·cases h
  ·rename_i hn
   have key:(List.take (dH ((b.take 3).drop 1)) (b.drop 3))≠[]/\(List.take (dH ((b.take 3).drop 1)) (b.drop 3)).length<=300:=by
    refine⟨λe=> ?_,by rw[List.length_take];omega⟩;have:=congrArg List.length e;rw[List.length_take]at this;simp only[List.length_nil]at this;omega
   split at h
   ·injection h with h;injection h with h _;subst h;exact⟨key.1,key.2,Nat.zero_le _,λ_=>rfl⟩
   ·split at h
    ·cases h
    ·rename_i hv
     injection h with h;injection h with h _;subst h;exact⟨key.1,key.2,by show(List.take _ _).length<=8192;rw[List.length_take];omega,λe=>by cases e⟩
theorem jQ:∀(n:Nat) (b:B) (L:List cd),b.length<=n->aX b=some L->∀c∈L,c.Fit
 |n,b,L,hn,h=>by
  unfold aX at h;split at h
  ·injection h with h;subst h;intro c d;cases d
  ·split at h
   ·cases h
   ·rename_i c r hs
    cases hq:aX r with
    |none=>rw[hq]at h;cases h
    |some L'=>
     rw[hq]at h;injection h with h;subst h;have e:=lg hs;cases n with
     |zero=>omega
     |succ k=>
      intro c' a;rcases List.mem_cons.1 a with rfl|a
      ·exact KM hs
      ·exact jQ k r L' (by omega) hq c' a
theorem Oa {gen commits:Nat} {now:List (B×B)} {b:B} {first:Bool} {n c':Nat} {now':List (B×B)} (h:take gen commits now b first= .took n c' now') (f:om now) (ha:sA now):om now'/\sA now'/\c'<4294967296:=by
 obtain⟨_,_,⟨L,d,_,e⟩,_,c⟩:=nP.1 h;obtain⟨g1,a⟩:=ll L _ _ (jQ _ _ L (Nat.le_refl _) d) f ha e;refine⟨g1,a, ?_⟩;rw[c];have:=mN ((b.take 5).drop 1);have g:((b.take 5).drop 1).length<=4:=by rw[List.length_drop,List.length_take];omega
 exact Nat.lt_of_lt_of_le this (Nat.pow_le_pow_right (by omega) g)
theorem Reads.fit {gen:Nat} {b:B} {a c e c':Nat} {m m':List (B×B)} (h:Reads gen b a c m e c' m') (d:om m) (ha:sA m) (i:c<4294967296):om m'/\sA m'/\c'<4294967296:=by
 induction h with
 |refl=>exact⟨d,ha,i⟩
 |step h t j=>obtain⟨h1,f,g⟩:=Oa h d ha;exact j h1 f g
def Ob (h:B):Prop:=h=[]\/valid h≠none
structure iD (q:Prop) (d:cS) (gen area side commits:Nat) (now:List (B×B)):Prop where
 cur:current d.h0 d.h1=(gen,area,side)
 ar:area<=1
 h0:Ob d.h0
 h1:Ob d.h1
 full:Reads gen (d.area area) 0 0 [] (d.area area).length commits now
 a0:d.a0.length<=8388608
 a1:d.a1.length<=8388608
 g:q->0<gen->0<(d.area area).length
theorem fc {h:B} {g a:Nat} (b:valid h=some (g,a)):h.length=24/\h.take 12=h.drop 12/\a<=1/\g<=latest:=by
 unfold valid at b;split at b
 ·rename_i hc
  injection b with b;injection b with h1 h2;subst h1 h2;exact⟨hc.1,hc.2.1,hc.2.2.1,hc.2.2.2⟩
 ·cases b
theorem qH (h0 h1:B):(current h0 h1).2.1<=1/\(current h0 h1).1<=latest/\(current h0 h1).2.2<=1:=by
 unfold current;cases e0:valid h0 with
 |none=>cases e1:valid h1 with
  |none=>exact⟨Nat.zero_le _,Nat.zero_le _,Nat.le_refl _⟩
  |some p=>obtain⟨g,a⟩:=p;exact⟨(fc e1).2.2.1,(fc e1).2.2.2,Nat.le_refl _⟩
 |some q=>obtain⟨g',b⟩:=q;cases e1:valid h1 with
  |none=>exact⟨(fc e0).2.2.1,(fc e0).2.2.2,Nat.zero_le _⟩
  |some p=>
   obtain⟨g,a⟩:=p;dsimp only;split
   ·exact⟨(fc e1).2.2.1,(fc e1).2.2.2,Nat.le_refl _⟩
   ·exact⟨(fc e0).2.2.1,(fc e0).2.2.2,Nat.zero_le _⟩
end J
namespace J
section
variable {q : Prop} {d : cS} {gen area side commits : Nat} {now : List (B × B)}
theorem qI (m:cS) (i:Nat) (b:B):(m.bC i b).area i=b:=by unfold cS.bC cS.area;split<;>rfl
theorem CD (m:cS) (i j:Nat) (b:B) (h:(i=0)≠(j=0)):(m.bC i b).area j=m.area j:=by
 unfold cS.bC cS.area;by_cases a:i=0<;>by_cases c:j=0<;>simp_all
theorem sB (m:cS) (i:Nat) (b:B):(m.bC i b).h0=m.h0:=by unfold cS.bC;split<;>rfl
theorem sD (m:cS) (i:Nat) (b:B):(m.bC i b).h1=m.h1:=by unfold cS.bC;split<;>rfl
theorem vI (m:cS) (i:Nat) (b:B) (n:Nat) (h:m.a0.length<=n) (a:b.length<=n):(m.bC i b).a0.length<=n:=by unfold cS.bC;split<;>assumption
theorem vJ (m:cS) (i:Nat) (b:B) (n:Nat) (h:m.a1.length<=n) (a:b.length<=n):(m.bC i b).a1.length<=n:=by unfold cS.bC;split<;>assumption
theorem iD.holds (h:iD q d gen area side commits now):cS.Holds q d commits now:=
 ⟨h.a0,h.a1,by rw[h.cur];exact⟨_,h.full,by rw[List.drop_length];exact take_nil _ _ _ _,h.g⟩⟩
theorem iD.FJ (h:iD q d gen area side commits now) (L:List cd) (b:commits+1<4294967296) (c:(encs L).length<4294967296) (g:(d.area area).length+(record 0 (commits+1) L).length<=8388608) (t:Nat) (f:t<(record 0 (commits+1) L).length):
  cS.Holds q (done d ⟨0,area,record 0 (commits+1) L⟩ t) commits now:=by
 have e:done d ⟨0,area,record 0 (commits+1) L⟩ t=d.bC area (d.area area++(record 0 (commits+1) L).take t):=rfl;have a:(d.area area++(record 0 (commits+1) L).take t).length<=8388608:=by rw[List.length_append,List.length_take];omega
 rw[e];refine⟨vI _ _ _ _ h.a0 a,vJ _ _ _ _ h.a1 a, ?_⟩;rw[sB,sD,h.cur];refine⟨(d.area area).length, ?_, ?_,h.g⟩
 ·show Reads gen ((d.bC area _).area area) _ _ _ _ _ _;rw[qI];exact h.full.ext (by rw[List.take_left' rfl,List.take_length])
 ·show take gen commits now (List.drop _ ((d.bC area _).area area)) _=_;rw[qI,List.drop_left' rfl];exact KL gen commits now 0 (commits+1) L t _ b c f
theorem iD.dz (h:iD q d gen area side commits now) (L:List cd) (j:commits+1<4294967296) (k:(encs L).length<4294967296) (m:(d.area area).length+(record 0 (commits+1) L).length<=8388608) (i:∀c∈L,c.Fit)
  (l:q) (now':List (B×B)) (ha:bA now L=some now'):
  iD q (done d ⟨0,area,record 0 (commits+1) L⟩ (record 0 (commits+1) L).length) gen area side (commits+1) now':=by
 have e:done d ⟨0,area,record 0 (commits+1) L⟩ (record 0 (commits+1) L).length=d.bC area (d.area area++record 0 (commits+1) L):=by
  show d.bC area (d.area area++(record 0 (commits+1) L).take _)=_;rw[List.take_length]
 have a:(d.area area++record 0 (commits+1) L).length<=8388608:=by rw[List.length_append];omega
 rw[e];refine⟨by rw[sB,sD,h.cur],h.ar,by rw[sB];exact h.h0,by rw[sD];exact h.h1, ?_,vI _ _ _ _ h.a0 a,vJ _ _ _ _ h.a1 a,λ_ _=>by rw[qI,List.length_append,ei];omega⟩;rw[qI];refine(h.full.ext (b':=d.area area++record 0 (commits+1) L) (by rw[List.take_left' rfl,List.take_length])).trans ?_;have f:=CB gen commits now 0 (commits+1) L [] ((d.area area).length==0) j k i (by
  rw[if_neg]
  ·exact⟨rfl,rfl⟩
  ·rintro⟨h1,g⟩;have:=h.g l g;have h1:=beq_iff_eq.1 h1;omega) now' ha
 rw[List.append_nil]at f;have:=Reads.step (gen:=gen) (b:=d.area area++record 0 (commits+1) L) (at_:=(d.area area).length) (c:=commits) (now:=now) (by rw[List.drop_left' rfl];exact f) (.refl _ _ _);rw[List.length_append];exact this
theorem iD.other (h:iD q d gen area side commits now) (b:B) (a:b.length<=8388608):iD q (d.bC (1 - area) b) gen area side commits now:=by
 have:=h.ar;refine⟨by rw[sB,sD,h.cur],h.ar,by rw[sB];exact h.h0,by rw[sD];exact h.h1, ?_,vI _ _ _ _ h.a0 a,vJ _ _ _ _ h.a1 a, ?_⟩
 all_goals rw[CD _ _ _ _ (by rcases Nat.eq_zero_or_pos area with e|e<;>simp<;>omega)]
 ·exact h.full
 ·exact h.g
end
end J
namespace J
def dA (s:St) (w t:Nat):cS:=
 match s.writes[w]? with
 |none=>aW s.base (s.writes.take w)
 |some wr=>if t=0 then aW s.base (s.writes.take w)else done (aW s.base (s.writes.take w)) wr t
def uU (s:St) (w t:Nat):Nat:=
 match s.writes[w]? with
 |none=>w
 |some wr=>if 0<t/\t=wr.bs.length then w+1 else w
def dp (at_:List Nat) (w:Nat):Nat:=at_.zipIdx.foldl (λn p=>if p.1<=w then p.2 else n) 0
theorem eV (at_:List Nat) (x w:Nat):dp (at_++[x]) w=if x<=w then at_.length else dp at_ w:=by
 unfold dp;rw[List.zipIdx_append,List.foldl_append];simp
theorem sF:∀(n:Nat) (at_:List Nat) (w:Nat),at_.length=n->0<n->dp at_ w<n
 |0,_,_,_,h=>absurd h (by omega)
 |n+1,at_,w,h,_=>by
  obtain⟨l,x,rfl⟩:∃l x,at_=l++[x]:=by
   rcases List.eq_nil_or_concat at_ with e|⟨l,x,e⟩
   ·subst e;simp at h
   ·exact⟨l,x,by rw[e,List.concat_eq_append]⟩
  have a:l.length=n:=(by rw[List.length_append]at h;simp at h;exact h);rw[eV];split
  ·omega
  ·cases n with
   |zero=>
    have:l=[]:=List.eq_nil_of_length_eq_zero a;subst this;simp[dp]
   |succ k=>have:=sF (k+1) l w a (by omega);omega
theorem vK:∀(n:Nat) (at_:List Nat) (w:Nat),at_.length=n->0<n->(∀x∈at_,x<=w)->dp at_ w=n - 1
 |0,_,_,_,h,_=>absurd h (by omega)
 |n+1,at_,w,h,_,ha=>by
  obtain⟨l,x,rfl⟩:∃l x,at_=l++[x]:=by
   rcases List.eq_nil_or_concat at_ with e|⟨l,x,e⟩
   ·subst e;simp at h
   ·exact⟨l,x,by rw[e,List.concat_eq_append]⟩
  have a:l.length=n:=(by rw[List.length_append]at h;simp at h;exact h);rw[eV,if_pos (ha x (by simp)),a];omega
def St.com (s:St):List (B×B):=if s.opn then s.was else s.now
structure Inv (q:Prop) (s:St):Prop where
 disk:iD q s.disk s.gen s.area s.side s.commits s.com
 fold:s.disk=aW s.base s.writes
 fit:om s.now
 asc:sA s.now
 cfit:om s.com
 casc:sA s.com
 chs:∀c∈s.changes,c.Fit
 ap:s.opn=true->bA s.was s.changes=some s.now
structure ln (q:Prop) (s:St) (b:Nat) (states:List (List (B×B))) (at_:List Nat):Prop where
 len:states.length=at_.length
 pos:0<at_.length
 le:∀x∈at_,x<=s.writes.length
 com:b+(at_.length - 1)=s.commits
 last:states[at_.length - 1]? =some s.com
 holds:∀w t,w<=s.writes.length->(t=0\/∃wr,s.writes[w]? =some wr/\t<=wr.bs.length)->∃now,states[dp at_ (uU s w t)]? =some now/\cS.Holds q (dA s w t) (b+dp at_ (uU s w t)) now
theorem nQ (m:cS) (l:List Wr) (w:Wr):aW m (l++[w])=done (aW m l) w w.bs.length:=by unfold aW;rw[List.foldl_append];rfl
theorem lr {s:St} {wr:Wr} {w:Nat} (h:w<s.writes.length):(s.writes++[wr])[w]? =s.writes[w]? :=List.getElem?_append_left h
theorem ej {s:St} {wr:Wr}:(s.writes++[wr])[s.writes.length]? =some wr:=by simp
theorem TR {b n c:Nat} (h:0<n) (a:b+(n - 1)=c):b+n=c+1:=by omega
section
variable {q : Prop} {s s' : St} {wr : Wr} {b : Nat} {states : List (List (B × B))} {at_ : List Nat}
theorem Oc (b:s'.writes=s.writes++[wr]) (a:s'.base=s.base) {w:Nat} (t:Nat) (h:w<s.writes.length):dA s' w t=dA s w t/\uU s' w t=uU s w t:=by
 unfold dA uU;rw[b,a,lr h,List.take_append_of_le_length (by omega)];exact⟨rfl,rfl⟩
theorem Zh {w t:Nat} (h:w<s.writes.length):uU s w t<=s.writes.length:=by
 unfold uU;split
 ·omega
 ·split<;>omega
theorem ln.write (h:ln q s b states at_) (c:s'.writes=s.writes++[wr]) (f:s'.base=s.base) (k:s.disk=aW s.base s.writes) (o:s'.commits=s.commits) (p:s'.com=s.com)
  (hd:cS.Holds q s.disk s.commits s.com) (u:∀t,0<t->t<=wr.bs.length->cS.Holds q (done s.disk wr t) s.commits s.com) (r:cS.Holds q (done s.disk wr wr.bs.length) s.commits s.com):ln q s' b states at_:=by
 refine⟨h.len,h.pos,λx j=>by rw[c,List.length_append];have:=h.le x j;omega,by rw[o];exact h.com,by rw[p];exact h.last,λw t i a=> ?_⟩;have l:∀v,s.writes.length<=v->∃now,states[dp at_ v]? =some now/\now=s.com/\b+dp at_ v=s.commits:=by
  intro v a;rw[vK _ at_ v rfl h.pos (λx j=>Nat.le_trans (h.le x j) a)];exact⟨_,h.last,rfl,h.com⟩
 rcases Nat.lt_or_ge w s.writes.length with m|y
 ·obtain⟨e1,e2⟩:=Oc c f t m;rw[e1,e2];refine h.holds w t (by omega) ?_;rw[c,lr m]at a;exact a
 ·rw[c,List.length_append]at i;have i:w<=s.writes.length+1:=i;rcases(show w=s.writes.length\/w=s.writes.length+1 by omega)with rfl|rfl
  ·have g:s.writes.length<=uU s' s.writes.length t:=(by unfold uU;rw[c,ej];dsimp only;split<;>omega);obtain⟨now,h1,rfl,d⟩:=l _ g;refine⟨_,h1, ?_⟩;rw[d];unfold dA;rw[c,f,ej,List.take_left' rfl,<-k];dsimp only;split
   ·exact hd
   ·rename_i TT
    rw[c,ej]at a;rcases a with a|⟨z,e,a⟩
    ·exact absurd a TT
    ·injection e with e;subst e;exact u t (by omega) a
  ·have n:(s.writes++[wr])[s.writes.length+1]? =none:=List.getElem?_eq_none (by simp);have g:s.writes.length<=uU s' (s.writes.length+1) t:=(by unfold uU;rw[c,n];dsimp only;omega);obtain⟨now,h1,rfl,d⟩:=l _ g;refine⟨_,h1, ?_⟩;rw[d];unfold dA;rw[c,f,n,List.take_of_length_le (by simp),nQ,<-k];exact r
theorem ln.dz (h:ln q s b states at_) (c:s'.writes=s.writes++[wr]) (j:s'.base=s.base) (r:s.disk=aW s.base s.writes) (C:s'.commits=s.commits+1) (now':List (B×B)) (D:s'.com=now') (h0:0<wr.bs.length)
  (hd:cS.Holds q s.disk s.commits s.com) (F:∀t,0<t->t<wr.bs.length->cS.Holds q (done s.disk wr t) s.commits s.com) (u:cS.Holds q (done s.disk wr wr.bs.length) (s.commits+1) now'):
  ln q s' b (states++[now']) (at_++[s.writes.length+1]):=by
 have n:=h.pos;have l:=h.len;have p:=h.com;have E:b+at_.length=s.commits+1:=TR n p;refine⟨by simp[l],by simp,λx d=> ?_,by rw[C];simp;omega,by rw[D];simp[<-l],λw t o a=> ?_⟩
 ·rw[c,List.length_append];rcases List.mem_append.1 d with d|d
  ·have:=h.le x d;omega
  ·simp at d;subst d;simp
 have y:∀v,s.writes.length+1<=v->∃now,(states++[now'])[dp (at_++[s.writes.length+1]) v]? =some now/\now=now'/\b+dp (at_++[s.writes.length+1]) v=s.commits+1:=by
  intro v a;rw[eV,if_pos a];exact⟨now',by rw[<-l];simp,rfl,E⟩
 have A:∀v,v<=s.writes.length->dp (at_++[s.writes.length+1]) v=dp at_ v/\(states++[now'])[dp at_ v]? =states[dp at_ v]? :=by
  intro v a;rw[eV,if_neg (by omega)];have:=sF _ at_ v rfl n;exact⟨rfl,List.getElem?_append_left (by omega)⟩
 rcases Nat.lt_or_ge w s.writes.length with m|G
 ·obtain⟨e1,e2⟩:=Oc c j t m;rw[e1,e2];obtain⟨e3,g⟩:=A _ (Zh (t:=t) m);rw[e3,g];refine h.holds w t (by omega) ?_;rw[c,lr m]at a;exact a
 ·rw[c,List.length_append]at o;have o:w<=s.writes.length+1:=o;rcases(show w=s.writes.length\/w=s.writes.length+1 by omega)with rfl|rfl
  ·have hcut:dA s' s.writes.length t=if t=0 then s.disk else done s.disk wr t:=by
    unfold dA;rw[c,j,ej,List.take_left' rfl,<-r]
   by_cases k:0<t/\t=wr.bs.length
   ·have f:uU s' s.writes.length t=s.writes.length+1:=(by unfold uU;rw[c,ej];dsimp only;rw[if_pos k]);rw[f,hcut];obtain⟨now,h1,rfl,i⟩:=y _ (Nat.le_refl _);refine⟨_,h1, ?_⟩;rw[i,if_neg (by omega),k.2];exact u
   ·have f:uU s' s.writes.length t=s.writes.length:=(by unfold uU;rw[c,ej];dsimp only;rw[if_neg k]);rw[f,hcut];obtain⟨e3,g⟩:=A _ (Nat.le_refl _);rw[e3,g,vK _ at_ _ rfl n h.le];refine⟨_,h.last, ?_⟩;rw[p];split
    ·exact hd
    ·rename_i TT
     rw[c,ej]at a;rcases a with a|⟨H,e,a⟩
     ·exact absurd a TT
     ·injection e with e;subst e;exact F t (by omega) (by omega)
  ·have z:(s.writes++[wr])[s.writes.length+1]? =none:=List.getElem?_eq_none (by simp);have f:uU s' (s.writes.length+1) t=s.writes.length+1:=(by unfold uU;rw[c,z]);rw[f];obtain⟨now,h1,rfl,i⟩:=y _ (Nat.le_refl _);refine⟨_,h1, ?_⟩;rw[i];unfold dA;rw[c,j,z,List.take_of_length_le (by simp),nQ,<-r];exact u
end
end J
namespace J
theorem Jf (q:Prop):Inv q new:=
 ⟨⟨rfl,Nat.zero_le _, .inl rfl, .inl rfl, .refl _ _ _,Nat.zero_le _,Nat.zero_le _,λ_ h=>absurd h (Nat.lt_irrefl _)⟩,rfl,uT,nO,uT,nO,λc a=>(by cases a),λh=>(by cases h)⟩
theorem KN {q:Prop} {s:St} (h:Inv q s) (a:s.writes=[]):ln q s s.commits [s.com] [0]:=by
 refine⟨rfl,Nat.one_pos,λx e=>by simp at e;omega,rfl,rfl,λw t b _=> ?_⟩;rw[a]at b;obtain rfl:w=0:=by simpa using b
 have d:uU s 0 t=0:=by unfold uU;rw[a];rfl
 have c:dA s 0 t=s.disk:=by rw[h.fold];unfold dA;rw[a];rfl
 rw[d,c];exact⟨_,rfl,h.disk.holds⟩
section
variable {q : Prop} {s : St} {b : Nat} {states : List (List (B × B))} {at_ : List Nat}
theorem ln.same {s':St} (h:ln q s b states at_) (a:s'.writes=s.writes) (e:s'.base=s.base) (f:s'.commits=s.commits) (g:s'.com=s.com):ln q s' b states at_:=by
 have e1:∀w t,dA s' w t=dA s w t:=λw t=>by unfold dA;rw[a,e]
 have e2:∀w t,uU s' w t=uU s w t:=λw t=>by unfold uU;rw[a]
 refine⟨h.len,h.pos,by rw[a];exact h.le,by rw[f];exact h.com,by rw[g];exact h.last,λw t d c=> ?_⟩;rw[e1,e2];rw[a]at d c;exact h.holds w t d c
theorem yK (h:Inv q s) (e:s.opn=false):Inv q (cW s)/\(cW s).com=s.com:=by
 have a:s.com=s.now:=by unfold St.com;rw[e];rfl
 have d:(cW s).com=s.now:=rfl;have hd:=h.disk;rw[a]at hd;exact⟨⟨hd,h.fold,h.fit,h.asc,h.fit,h.asc,λc b=>(by cases b),λ_=>rfl⟩,by rw[a,d]⟩
theorem CE (h:Inv q s) (g:s.opn=true):Inv q (cM s)/\(cM s).com=s.com:=by
 have b:s.com=s.was:=by unfold St.com;rw[g];rfl
 have f:(cM s).com=s.was:=rfl;have hd:=h.disk;have a:=h.cfit;have ha:=h.casc;rw[b]at hd a ha;exact⟨⟨hd,h.fold,a,ha,a,ha,λc d=>(by cases d),λe=>(by cases e)⟩,by rw[b,f]⟩
theorem KO (h:Inv q s) (b:s.opn=true) (c:cd) (e:c.Fit) (i:c.gone=true->look s.now c.key≠none):Inv q (apply {s with changes:=s.changes++[c],size:=s.size+c.len} c):=by
 refine⟨?_,h.fold, ?_, ?_, ?_, ?_,λx d=> ?_,λ_=> ?_⟩
 ·have hd:=h.disk;have f:s.com=s.was:=(by unfold St.com;rw[b];rfl);have g:(apply {s with changes:=s.changes++[c],size:=s.size+c.len} c).com=s.was:=(by unfold St.com apply;dsimp only;rw[b];rfl);rw[g];rw[f]at hd;exact hd
 ·show om (if c.gone then _ else _);split
  ·exact uS h.fit _
  ·exact Je h.fit _ _ e.k0 e.k e.v
 ·show sA (if c.gone then _ else _);split
  ·exact nN h.asc _
  ·exact lh h.asc _ _
 ·have a:=h.cfit;unfold St.com at a;rw[b]at a;show om (if s.opn then s.was else _);rw[b];exact a
 ·have a:=h.casc;unfold St.com at a;rw[b]at a;show sA (if s.opn then s.was else _);rw[b];exact a
 ·rcases List.mem_append.1 d with d|d
  ·exact h.chs x d
  ·simp at d;subst d;exact e
 ·show bA s.was (s.changes++[c])=some (if c.gone then del s.now c.key else ins s.now c.key c.val);rw[fM,h.ap b];show bA s.now [c]=_;unfold bA;cases hgo:c.gone with
  |true=>simp only[if_true];rw[if_neg (i hgo)];rfl
  |false=>simp only[Bool.false_eq_true,if_false];rfl
theorem FK {s:St} (w:Wr) (h:s.disk=aW s.base s.writes):(write s w).disk=aW (write s w).base (write s w).writes:=by
 have e:aW (write s w).base (write s w).writes=aW s.base (s.writes++[w]):=rfl;rw[e,nQ,<-h];rfl
def c1 (s:St):St:=write s ⟨1,1 - s.area,[]⟩
def c2 (s:St):St:=write (c1 s) ⟨0,1 - s.area,record 1 s.commits (values s.com)⟩
def c2' (s:St):St:={c2 s with side:=1 - s.side}
def c3 (s:St):St:=write (c2' s) ⟨2,1 - s.side,part (s.gen+1) (1 - s.area)++part (s.gen+1) (1 - s.area)⟩
theorem oB (h:Inv q s) (l:q) (g:s.opn=true) (i:(s.disk.area s.area).length+(record 0 (s.commits+1) s.changes).length<=8388608) (d:s.commits+1<4294967296) (f:(encs s.changes).length<4294967296):
  Inv q (aK s)/\(aK s).com=s.now/\(ln q s b states at_->ln q (aK s) b (states++[s.now]) (at_++[s.writes.length+1])):=by
 have k:s.com=s.was:=by unfold St.com;rw[g];rfl
 have hd:=h.disk;have j:bA s.com s.changes=some s.now:=by rw[k];exact h.ap g
 have d1:=hd.dz s.changes d f i h.chs l s.now j;have f1:(aK s).disk=aW (aK s).base (aK s).writes:=FK (s:=s) ⟨0,s.area,record 0 (s.commits+1) s.changes⟩ h.fold;have a:(aK s).com=s.now:=rfl;refine⟨⟨?_,f1,h.fit,h.asc, ?_, ?_,λc d=>(by cases d),λe=>(by cases e)⟩,a,λhh=> ?_⟩
 ·rw[a];exact d1
 ·rw[a];exact h.fit
 ·rw[a];exact h.asc
 ·exact hh.dz (s':=aK s) (wr:=⟨0,s.area,record 0 (s.commits+1) s.changes⟩) rfl rfl h.fold rfl s.now a (by rw[ei];omega) hd.holds (λt _ m=>hd.FJ s.changes d f i t m) d1.holds
end
end J
namespace R
abbrev B:=J.B
def cp (n:Nat):B:=[UInt8.ofNat (n/16777216),UInt8.ofNat (n/65536),UInt8.ofNat (n/256),UInt8.ofNat n]
theorem dr (n:Nat):(cp n).length=4:=rfl
def zT:B->Nat
 |[a,b,c,d]=>a.toNat*16777216+b.toNat*65536+c.toNat*256+d.toNat
 |_=>0
theorem qJ {n:Nat} (h:n<4294967296):zT (cp n)=n:=by
 simp only[cp,zT,UInt8.toNat_ofNat'];omega
theorem TU {a b:Nat} (ha:a<4294967296) (c:b<4294967296) (h:cp a=cp b):a=b:=by
 rw[<-qJ ha,<-qJ c,h]
theorem Xo {a b:UInt8}:a<b↔a.toNat<b.toNat:=UInt8.lt_iff_toNat_lt
theorem lx {a b:UInt8} {s t:B}:(a::s)<(b::t)↔a<b\/a=b/\s<t:=List.cons_lt_cons_iff
theorem le4 {a b:Nat} {c x1 x2 d y0 y1 y2 y3:Nat} (h1:x1<256) (e:x2<256) (f:d<256) (h:y1<256) (i:y2<256) (j:y3<256)
  (ha:a=c*16777216+x1*65536+x2*256+d) (g:b=y0*16777216+y1*65536+y2*256+y3):
  (c<y0\/c=y0/\(x1<y1\/x1=y1/\(x2<y2\/x2=y2/\d<y3)))↔a<b:=by
 omega
theorem Zj {a b:Nat} (ha:a<4294967296) (d:b<4294967296):cp a<cp b↔a<b:=by
 have c:¬(([]:B)<[]):=List.lt_irrefl _;simp only[cp,lx,Xo,<-UInt8.toNat_inj,UInt8.toNat_ofNat',c,and_false,or_false];exact le4 (by omega) (by omega) (by omega) (by omega) (by omega) (by omega) (by omega) (by omega)
theorem FL (p:B) {s t:B}:p++s<p++t↔s<t:=by
 induction p with
 |nil=>rfl
 |cons a p b=>
  rw[List.cons_append,List.cons_append,lx,b];have:¬a<a:=(by simp);simp[this]
def own (nm:B):B:=nm++[0,65]
def recs (nm:B):B:=nm++[0,82]
def key (nm:B) (n:Nat):B:=recs nm++cp n
theorem ly (nm:B):(own nm).length=nm.length+2:=by simp[own]
theorem Jg (nm:B) (n:Nat):(key nm n).length=nm.length+6:=by simp[key,recs,dr]
def attr (rel:Bool) (size:Nat):B:=(if rel then 1 else 0)::cp size
abbrev Rows:=List (Nat×B)
def rowOf (nm:B) (r:Nat×B):B×B:=(key nm r.1,r.2)
def acP (nm:B) (a:Option B) (rows:Rows):List (B×B):=match a with
 |none=>[]
 |some a=>(own nm,a)::rows.map (rowOf nm)
structure aQ (rows:Rows):Prop where
 asc:rows.Pairwise λa b=>a.1<b.1
 pos:∀r∈rows,1<=r.1/\r.1<=65536
def look:Rows->Nat->Option B
 |[],_=>none
 |r::t,n=>if r.1=n then some r.2 else look t n
def del (rows:Rows) (n:Nat):Rows:=rows.filter λr=> !(r.1==n)
def put (rows:Rows) (n:Nat) (b:B):Rows:=(del rows n).takeWhile (λr=>decide (r.1<n))++(n,b)::(del rows n).dropWhile (λr=>decide (r.1<n))
end R
end Go.Proofs.YtipljcmmokaokaaGreat
