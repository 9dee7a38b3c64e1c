import Derived.Test.YtipljcmmokaokaaGreatQ12
set_option linter.unusedVariables false
set_option linter.unusedSimpArgs false
set_option maxHeartbeats 40000000
namespace Go.Proofs.YtipljcmmokaokaaGreat
open Go.RowKit Go.Lib Go.Maps Go.WideMaps Go.Sort
set_option maxRecDepth 100000
theorem gB (j:Nat) (h:j<=1000000):Value.int .i64 (wrap64 ((j:Int)+1))= .int .i64 ((j+1:Nat):Int):=by rw[UN j h]
theorem fy {j n:Nat} (h:j<n) (a:j<=1000000):n - (intOf (Value.int .i64 (wrap64 ((j:Int)+1)))).toNat<n - (intOf (Value.int .i64 (j:Int))).toNat:=by
 rw[UN j a];simp only[intOf];omega
theorem eH {j n:Nat} (h:j<n):n - (intOf (Value.int .i64 ((j:Int)+1))).toNat<n - (intOf (Value.int .i64 (j:Int))).toNat:=by
 simp only[intOf];omega
theorem tA (x k:J.B):Op.bytesLess (⟨x.toArray⟩:ByteArray).toList (⟨k.toArray⟩:ByteArray).toList=decide (x<k):=by
 rw[ByteArray.toList_eq,ByteArray.toList_eq,bytesLess_eq]
def QG (V W:ByteArray):Prop:=(Op.bytesLess V.toList W.toList=true/\(V.toList==W.toList)=false/\Op.bytesLess W.toList V.toList=false/\(W.toList==V.toList)=false)\/(Op.bytesLess V.toList W.toList=false/\(V.toList==W.toList)=true/\Op.bytesLess W.toList V.toList=false/\(W.toList==V.toList)=true)\/(Op.bytesLess V.toList W.toList=false/\(V.toList==W.toList)=false/\Op.bytesLess W.toList V.toList=true/\(W.toList==V.toList)=false)
theorem El (x y:J.B):QG ⟨x.toArray⟩ ⟨y.toArray⟩:=by
 unfold QG;rw[tA,tA,dt,dt];by_cases h1:x<y
 ·have a:¬x=y:=λe=>by rw[e]at h1;exact List.lt_irrefl _ h1
  have b:¬y<x:=List.lt_asymm h1;exact .inl ⟨decide_eq_true h1,decide_eq_false a,decide_eq_false b,decide_eq_false (λe=>a e.symm)⟩
 ·rcases List.le_iff_lt_or_eq.1 (List.not_lt.1 h1)with a|a
  ·have b:¬x=y:=λe=>by rw[e]at a;exact List.lt_irrefl _ a
   exact .inr (.inr ⟨decide_eq_false h1,decide_eq_false b,decide_eq_true a,decide_eq_false (λe=>b e.symm)⟩)
  ·subst a;exact .inr (.inl ⟨decide_eq_false h1,decide_eq_true rfl,decide_eq_false h1,decide_eq_true rfl⟩)
theorem UZ (ks:List X.Ky) (k:Nat) (v:J.B) (t:Nat) (same:Bool) (r:X.Row):X.uE ks k v t same r=(decide (v<X.val ks k r.b)||(decide (X.val ks k r.b=v)&&(decide (t<r.t k)||(decide (r.t k=t)&&same)))):=by
 unfold X.uE;rw[show decide (v=X.val ks k r.b)=decide (X.val ks k r.b=v)from decide_eq_decide.2 eq_comm]
abbrev lz (m:X.M):X.M:={m with lost:=true,read:=false}
theorem jP {x:J.B} (h:x≠[]):¬(⟨x.toArray⟩:ByteArray).toList=[]/\(⟨x.toArray⟩:ByteArray).toList.isEmpty=false:=by
 rw[ByteArray.toList_eq];exact⟨h,by cases x with|nil=>exact absurd rfl h|cons _ _=>rfl⟩
theorem tB (wr:J.B) (l:List Nat) (md:Nat) (h:wr≠[]):X.bP wr l md≠[]:=by
 unfold X.bP;split
 ·decide
 ·split
  ·decide
  ·exact h
theorem jJ {p:X.Row->Bool} {ls:List HP} {j:Nat} (b:j<ls.length) (c:∀t (a:t<ls.length),t<j->p ls[t].1=false) (f:p ls[j].1=true):(ls.map (·.1)).find? p=some ls[j].1:=by
 have e:ls=ls.take j++ls[j]::ls.drop (j+1):=by rw[<-List.drop_eq_getElem_cons b,List.take_append_drop]
 conv=>lhs;rw[e]
 rw[List.map_append,List.find?_append,List.find?_eq_none.2 (λx d=>by
  obtain⟨z,g,rfl⟩:=List.mem_map.1 d;obtain⟨t,a,rfl⟩:=List.getElem_of_mem g;rw[List.length_take]at a;rw[List.getElem_take,c t (by omega) (by omega)];decide),Option.none_or,List.map_cons,List.find?_cons,f]
theorem lZ {p:X.Row->Bool} {ls:List HP} (b:∀t (a:t<ls.length),p ls[t].1=false):(ls.map (·.1)).find? p=none:=
 List.find?_eq_none.2 (λx c=>by
  obtain⟨z,d,rfl⟩:=List.mem_map.1 c;obtain⟨t,a,rfl⟩:=List.getElem_of_mem d;rw[b t a];decide)
section
variable {w w' : World} {q g c : Nat} {M : Nat -> Prop} {m : X.M} {v : Value} {l : List HP}
theorem fH.cn (h:fH w q g c M m v l) (k:Nat):(dm m.ks k l).map (·.1)=X.cn m.ks k m.rows:=by rw[rG,h.eq]
theorem QH (h:fH w q g c M m v l) {size ct:Nat} (n:X.aQ m.ks size ct m.rows) (k:m.key<m.ks.length) {i:Nat} (b:i<(dm m.ks m.key l).length):
  tkS m (dm m.ks m.key l) i (dm m.ks m.key l)[i].1.b=m.qO (dm m.ks m.key l)[i].1:=by
 have a:=h.cn m.key;have j:i<(X.cn m.ks m.key m.rows).length:=by rw[<-a,List.length_map];exact b
 have e:(X.cn m.ks m.key m.rows)[i]=(dm m.ks m.key l)[i].1:=by
  have:=List.getElem_map (f:=(·.1)) (l:=dm m.ks m.key l) (i:=i) (h:=by rw[List.length_map];exact b);rw[<-this]
  congr 1
  exact a.symm
 have d:=X.Mb n k j;rw[e]at d;have e1:m.more (dm m.ks m.key l)[i].1=moreB m.ks m.rows m.key (dm m.ks m.key l)[i].1:=rfl;have e2:nxB m.ks m.key (dm m.ks m.key l) i (dm m.ks m.key l)[i].1.b=m.more (dm m.ks m.key l)[i].1:=by
  rw[e1,d,<-a,List.getElem?_map];unfold nxB;cases(dm m.ks m.key l)[i+1]? <;>rfl
 unfold tkS X.M.qO;rw[e2]
theorem bY.cn (a:bY m l) (k:Nat):bY m (dm m.ks k l):=a.sub (λx b=>rH l b) (by rw[kP];exact aq _)
theorem bY.of (h:fH w q g c M m v l) {size ct:Nat} (d:X.aQ m.ks m.size ct m.rows) (e:X.eC m.ks m.size) (f:m.rows.length<=1000000):bY m l:=by
 have b:∀x∈l,x.1∈m.rows:=λx a=>by rw[<-h.eq];exact List.mem_map_of_mem a
 exact⟨λx a=>d.fit _ (b x a),λx a=>d.tl _ (b x a),e,by rw[h.len];exact f⟩
theorem eL (j:w.heap[q]? =some (gz m g c v)) (f:J.B) (a b d:Nat) (ls:List Nat) (i:∀x,x∈ls↔x=a\/x=b\/x=d) (k:f≠X.good) (h:X.bP f ls m.mode=X.good):
  Calls Tryz.prog 59 #[.pointer (some ⟨q,0,none⟩), .string ⟨f.toArray⟩, .int .u8 (a:Nat), .int .u8 (b:Nat), .int .u8 (d:Nat)] w λe w'=>e= .returned (.string ⟨#[]⟩)/\w=w':=by
 have:=xc j f a b d;rw[UF i k h]at this;exact this
theorem iB (j:w.heap[q]? =some (gz m g c v)) (f:J.B) (a b d:Nat) (ls:List Nat) (i:∀x,x∈ls↔x=a\/x=b\/x=d) (h:X.bP f ls m.mode≠X.good):
  Calls Tryz.prog 59 #[.pointer (some ⟨q,0,none⟩), .string ⟨f.toArray⟩, .int .u8 (a:Nat), .int .u8 (b:Nat), .int .u8 (d:Nat)] w λe w'=>e= .returned (.string ⟨(X.bP f ls m.mode).toArray⟩)/\w=w':=by
 have:=xc j f a b d;rw[UG i h]at this;exact this
def HR (w:World) (q g c:Nat) (M:Nat->Prop) (m':X.M) (v':Value) (l':List HP) (w':World):Prop:=w.grownBy w' (some q)/\fH w' q g c M m' v' l'
theorem fz (h:fH w q g c M m v l):HR w q g c M m v l w:=⟨World.grownBy.refl w _,h⟩
theorem rL (h:fH w q g c M m v l) (a:Below w.heap.size w w'):HR w q g c M m v l w':=⟨⟨a.os,a.tape,a.output,a.size,λk b _=>a.block k b⟩,h.below a⟩
theorem HR.below {w1 d:World} {m':X.M} {v':Value} {l':List HP} (h:HR w q g c M m' v' l' w1) (a:Below w1.heap.size w1 d):HR w q g c M m' v' l' d:=
 ⟨⟨a.os.trans h.1.os,a.tape.trans h.1.tape,a.output.trans h.1.output,aw h.1.size a.size,λk b e=>(a.block k (av b h.1.size)).trans (h.1.block k b e)⟩,h.2.below a⟩
theorem jK {w1 d:World} {r:Option Nat} (h1:w.grownBy w1 r) (a:w1.grownBy d r):w.grownBy d r:=
 ⟨a.os.trans h1.os,a.tape.trans h1.tape,a.output.trans h1.output,aw h1.size a.size,λk b c=>(a.block k (av b h1.size) c).trans (h1.block k b c)⟩
theorem HR.trans {w1 e:World} {h d:X.M} {v1 v2:Value} {f b:List HP} (h1:HR w q g c M h v1 f w1) (a:HR w1 q g c M d v2 b e):HR w q g c M d v2 b e:=⟨jK h1.1 a.1,a.2⟩
theorem fH.QI {m':X.M} {v':Value} {l':List HP} (h:fH w q g c M m v l) (a:w.grownBy w' (some q)) (d:w'.heap[q]? =some (gz m' g c v')) (e1:m'.ks=m.ks) (b:lU w' M v' l') (e2:l'.map (·.1)=m'.rows):fH w' q g c M m' v' l':=by
 refine⟨d, ?_,h.ng,b,h.nq,e2⟩;rw[e1];exact⟨av h.ks.1 a.size,λj u f=>(World.cell?_of_block (a.block g h.ks.1 (λe=>h.ng (by injection e)))).trans (h.ks.2 j u f)⟩
theorem HR.set {a m':X.M} {w1:World} (h:HR w q g c M a v l w1) (j:Nat) (x:Value) (b:(w1.setCell ⟨q,j,none⟩ x).heap[q]? =some (gz m' g c v)) (e1:m'.ks=a.ks) (e2:m'.rows=a.rows):HR w q g c M m' v l (w1.setCell ⟨q,j,none⟩ x):=
 ⟨ay h.1 j x,h.2.turn (ay (World.grownBy.refl w1 (some q)) j x) b e1 e2⟩
end
namespace X
section
variable {m : M} {b : B} {old : Option Row}
def TC (m:M) (b:B) (old:Option Row) (i:Nat):Nat:=if i=0 then 0 else match old with
 |some o=>if val m.ks i o.b=val m.ks i b then o.t i else m.time+1
 |none=>m.time+1
theorem Mi:m.times b old=(List.range m.ks.length).map (TC m b old):=by
 unfold M.times;refine List.map_congr_left (λi _=> ?_);unfold TC;cases old<;>rfl
def Bi (m:M) (b:B) (old:Option Row) (k:Nat):List Nat:=(List.range m.ks.length).map λi=>if i<k then TC m b old i else 0
theorem ma (k:Nat):(Bi m b old k).length=m.ks.length:=by simp[Bi]
theorem Va:Bi m b old 1=List.replicate m.ks.length 0:=by
 apply List.ext_getElem
 ·simp[Bi]
 ·intro i h1 a;simp only[Bi,List.getElem_map,List.getElem_range,List.getElem_replicate];split
  ·rename_i h
   unfold TC;rw[if_pos (by omega)]
  ·rfl
theorem JP (k:Nat):(Bi m b old k).set k (TC m b old k)=Bi m b old (k+1):=by
 apply List.ext_getElem
 ·simp[Bi]
 ·intro i h1 a;rw[List.getElem_set];simp only[Bi,List.getElem_map,List.getElem_range];by_cases e:k=i
  ·subst e;rw[if_pos rfl,if_pos (by omega)]
  ·rw[if_neg e];by_cases h:i<k
   ·rw[if_pos h,if_pos (by omega)]
   ·rw[if_neg h,if_neg (by omega)]
theorem JQ:Bi m b old m.ks.length=m.times b old:=by
 rw[Mi];apply List.ext_getElem
 ·simp[Bi]
 ·intro i h1 a;simp only[Bi,List.getElem_map,List.getElem_range];rw[if_pos (by simpa [Bi] using h1)]
def Yn (m:M) (b:B) (old:Option Row) (k:Nat):B:=if(List.range' 1 (k - 1)).any (λi=>m.cT i b old)then [48,50]else [48,48]
def ptN (m:M) (b:B) (old:Option Row) (k:Nat):Prop:=∀i,1<=i->i<k->m.cT i b old=true->(aH m.ks i).dup=true
theorem Vb:ptN m b old 1:=λi h1 a=>by omega
theorem QJ {k:Nat} (h:1<=k):Yn m b old (k+1)=if m.cT k b old=true then [48,50]else Yn m b old k:=by
 unfold Yn;rw[show k+1 - 1=(k - 1)+1 by omega,List.range'_concat,List.any_append,List.any_cons,List.any_nil,Bool.or_false,show 1+1*(k - 1)=k by omega];cases m.cT k b old with
 |true=>rw[Bool.or_true];rfl
 |false=>rw[Bool.or_false];rfl
theorem Em {k:Nat} (h:ptN m b old k) (c:m.cT k b old=true->(aH m.ks k).dup=true):ptN m b old (k+1):=λi h1 d a=>by
 by_cases e:i=k
 ·subst e;exact c a
 ·exact h i h1 (by omega) a
theorem Mj (d:ptN m b old m.ks.length):m.dh b old=Yn m b old m.ks.length:=by
 unfold M.dh;rw[if_neg]
 ·rfl
 ·intro hh;obtain⟨i,c,a⟩:=List.any_eq_true.1 hh;rw[Bool.and_eq_true]at a;rw[List.mem_range'_1]at c;rw[d i c.1 (by omega) a.1]at a;cases a.2
theorem aax (k:Nat):Yn m b old k≠[50,50]:=by
 unfold Yn;split<;>decide
theorem Mk {k:Nat} (h1:1<=k) (c:k<m.ks.length) (a:m.cT k b old=true) (hd:(aH m.ks k).dup=false):m.dh b old=[50,50]:=by
 unfold M.dh;rw[if_pos (List.any_eq_true.2 ⟨k,by rw[List.mem_range'_1];omega,by rw[a,hd];rfl⟩)]
end
end X
def Vc (m:X.M) (b:J.B) (k:Nat) (l:List HP) (i:Nat):Bool:=(l.take i).any λx=>decide (X.val m.ks k x.1.b=X.val m.ks k b)
theorem QK {m:X.M} {b:J.B} {k:Nat} {l:List HP} {i:Nat} (h:i<l.length):Vc m b k l (i+1)=(Vc m b k l i||decide (X.val m.ks k l[i].1.b=X.val m.ks k b)):=by
 unfold Vc;rw[List.take_succ_eq_append_getElem h,List.any_append,List.any_cons,List.any_nil,Bool.or_false]
theorem Vd {m:X.M} {b:J.B} {k:Nat} {l:List HP} (a:l.map (·.1)=m.rows) {old:Option X.Row} (c:X.keeps m.ks k b old=false):Vc m b k l l.length=m.cT k b old:=by
 unfold Vc X.M.cT;rw[c,List.take_length,<-a,List.any_map];rfl
def ptQ (st:J.B) (f:Bool):J.B:=if f then [48,50]else st
abbrev Ve (ts:List Nat):Obj:= .cells (ts.map xM).toArray 3 (0,0)
theorem Tryz.aea:(Tryz.prog.info? 3).map (λi=>(i.zero,i.size,i.bytes))=some (some (.int .i64 0),1,8):=by kernel_rfl
theorem Vf (n:Nat):madeCells #[(.int .i64 0:Value)] n=((List.replicate n 0).map xM).toArray:=by
 unfold madeCells;apply Array.ext
 ·simp
 ·intro i h1 a;simp[Nat.mod_one]
theorem aay (n:Nat) (f:n<=100000) (W:World):(Instr.makeSlice 50 (.int .i64 (n:Nat)) (.int .i64 (n:Nat))).run Tryz.prog W= .ok (.slice (some ⟨W.heap.size,0,none⟩) n n) (W.alloc (Ve (List.replicate n 0))):=by
 obtain⟨i0,b,c,a,d⟩:=info_parts Tryz.aea;have h:=run_makeSlice (P:=Tryz.prog) W 50 3 i0 _ Tryz.underlying50 b c .i64 .i64 n n (by omega) (Int.le_refl _) (by rw[a];omega) (by rw[d];omega) (by omega);rw[a]at h;simp only[Int.toNat_natCast,Nat.mul_one]at h;have e:(Value.int .i64 0).cells=#[(.int .i64 0:Value)]:=rfl;rw[e,Vf]at h;exact h
theorem vd {w:World} {tb:Nat} {ts:List Nat} (h:w.heap[tb]? =some (Ve ts)) {k:Nat} (a:k<ts.length):w.cell? ⟨tb,k,none⟩=some (xM ts[k]):=by
 rw[cell_of_row w tb k _ _ _ h];simp[a]
theorem aaz {w:World} {tb:Nat} {ts:List Nat} (h:w.heap[tb]? =some (Ve ts)) (k x:Nat):(w.setCell ⟨tb,k,none⟩ (xM x)).heap[tb]? =some (Ve (ts.set k x)):=by
 rw[aB h];simp only[Ve,List.map_set];rw[List.setIfInBounds_toArray]
structure NM (w:World) (tb:Nat) (ts:List Nat) (W:World):Prop where
 bel:Below w.heap.size w W
 tm:W.heap[tb]? =some (Ve ts)
theorem NM.below {w W W':World} {tb:Nat} {ts:List Nat} (h:NM w tb ts W) (a:Below W.heap.size W W'):NM w tb ts W':=
 ⟨h.bel.trans (a.mono h.bel.size),(a.block tb (ai h.tm).1).trans h.tm⟩
theorem NM.set {w W:World} {tb:Nat} {ts:List Nat} (h:NM w tb ts W) (a:w.heap.size<=tb) (k x:Nat):NM w tb (ts.set k x) (W.setCell ⟨tb,k,none⟩ (xM x)):=
 ⟨h.bel.setCell a _,aaz h.tm k x⟩
theorem Ho {l:List HP} {i j:Nat} (h:i<l.length):(l.take (i+1)).eraseIdx j=if i=j then(l.take i).eraseIdx j else(l.take i).eraseIdx j++[l[i]]:=by
 rw[List.take_succ_eq_append_getElem h];have a:(l.take i).length=i:=by rw[List.length_take];omega
 by_cases e:i=j
 ·subst e;rw[if_pos rfl,List.eraseIdx_append_of_length_le (by omega),a,Nat.sub_self,List.eraseIdx_cons_zero,List.append_nil,List.eraseIdx_of_length_le (by omega)]
 ·rw[if_neg e];by_cases b:j<i
  ·rw[List.eraseIdx_append_of_lt_length (by omega)]
  ·rw[List.eraseIdx_of_length_le (l:=l.take i) (by omega),List.eraseIdx_of_length_le (by rw[List.length_append,a,List.length_singleton];omega)]
theorem tC {b c:Type} (f:b->c):∀(l:List b) (j:Nat),(l.map f).eraseIdx j=(l.eraseIdx j).map f
 |[],_=>rfl
 |_::_,0=>rfl
 |a::t,j+1=>by rw[List.map_cons,List.eraseIdx_cons_succ,List.eraseIdx_cons_succ,List.map_cons,tC f t j]
def Vg (m:X.M) (b:J.B) (l:List HP) (j:Nat) (old:Option X.Row):X.M:={m with rows:=(l.eraseIdx j).map (·.1)++[⟨b,m.times b old⟩],time:=m.time+1}
theorem iP {l:List X.Row} {ks:List X.Ky} {p:J.B} (f:l.Pairwise λx y=>X.val ks 0 x.b≠X.val ks 0 y.b) {j:Nat} (b:j<l.length) (e:X.val ks 0 l[j].b=p):l.filter (λr=>decide (X.val ks 0 r.b≠p))=l.eraseIdx j:=by
 induction l generalizing j with
 |nil=>simp at b
 |cons a t h=>
  obtain⟨h1,c⟩:=List.pairwise_cons.1 f;cases j with
  |zero=>
   have e:X.val ks 0 a.b=p:=e;rw[List.filter_cons_of_neg (by simp[e]),List.eraseIdx_cons_zero];refine List.filter_eq_self.2 (λx g=>decide_eq_true (λhh=>h1 x g (by rw[e,hh])))
  |succ j=>
   have b:j<t.length:=(by simpa using b);have e:X.val ks 0 t[j].b=p:=e;have d:X.val ks 0 a.b≠p:=λhh=>h1 t[j] (List.getElem_mem b) (by rw[e,hh]);rw[List.filter_cons_of_pos (by simpa using d),h c b e,List.eraseIdx_cons_succ]
theorem QL {m:X.M} {b:J.B} {l:List HP} (a:l.map (·.1)=m.rows) (d:∀x∈l,X.val m.ks 0 x.1.b≠X.val m.ks 0 b):Vg m b l l.length none=m.put b none:=by
 unfold Vg X.M.put;rw[List.eraseIdx_of_length_le (Nat.le_refl _),a];have:m.rows.filter (λr=>decide (X.val m.ks 0 r.b≠X.val m.ks 0 b))=m.rows:=List.filter_eq_self.2 (λx c=>by
  rw[<-a]at c;obtain⟨y,e,rfl⟩:=List.mem_map.1 c;exact decide_eq_true (d y e))
 rw[this]
theorem En {m:X.M} {b:J.B} {l:List HP} (a:l.map (·.1)=m.rows) (k:m.rows.Pairwise λx y=>X.val m.ks 0 x.b≠X.val m.ks 0 y.b) {j:Nat} (c:j<l.length) (e:X.val m.ks 0 l[j].1.b=X.val m.ks 0 b):Vg m b l j (some l[j].1)=m.put b (some l[j].1):=by
 unfold Vg X.M.put;have g:j<m.rows.length:=by rw[<-a,List.length_map];exact c
 have d:m.rows[j]=l[j].1:=by
  have:=List.getElem_map (f:=(·.1)) (l:=l) (i:=j) (h:=by rw[List.length_map];exact c);rw[<-this]
  congr 1
  exact a.symm
 rw[iP k g (by rw[d];exact e),<-a,tC]
def uv (n:Nat):Code->Option Code
 | .block id c=>if id=n then some (.block id c)else uv n c
 | .loop c=>uv n c
 | .seq a b=>match uv n a with
  |some c=>some c
  |none=>uv n b
 | .scope c=>uv n c
 | .cond _ a b=>match uv n a with
  |some c=>some c
  |none=>uv n b
 |_=>none
noncomputable def aaA:Code:=(Tryz.f62.body.bind (uv 2)).getD .skip
section
variable {w w' : World} {q g c : Nat} {M : Nat -> Prop} {m : X.M} {v : Value} {l : List HP}
theorem aeb {f:World} {Q:Exit->Act->World->Prop} (h:fH f q g c M m v l) (H:bY m l) {k:Nat} (K:k<m.ks.length) (b:J.B) (d9:X.bt m.ks m.size b=true) (j:Nat) (z:Int) (hz:(z=(j:Nat)/\j<l.length)\/(z= -1/\j=l.length)) {old:Option X.Row} (p4:(l[j]?).map (·.1)=old) (L:X.keeps m.ks k b (old)=false)
  (S:ByteArray) (hS:S=⟨b.toArray⟩) (st:J.B) (u3 u4 u5 u6 u8 e5 f4 g5 h7 i8 j0 j1 j2 j3 j4 j5 j6 j7 j8 j9 k0 k1 k2 v4 k4 k5 k6 k7 k8 k9 l0 l1 l2 l3 l4 l5 l6 l7 l8 l9 m0 m1 m2 m3 m4 m5 m6 m7 m8 m9 n0 n1 n2 n3 n4 n5 n6 n7 n8 n9 o0 o1 o2 o3 o4 o5 r7 r8 r9 s0 s1 s2 s3 s4 s5 s6 s7 s8 s9 t0 t1 t2 t3 t4 t5 t6 t7 t8 t9 u0 u1 u2 v5 v6 q5 q6 q7 q8 q9 r0 r1 r2 r3 r4 r5 r6 e6 e7 e8 e9 f0 f1 f2 f3 f5 f6 f7 f8 f9 v3 g1 g2 g3 g4 g6 g7 g8 g9 h0 h2 h3 h4 h5 h6 h8 h9 i0 i1 i2 i3 i4 i5 i6 i7 i9:Value)
  (h1:∀(d6 Y b1 b2 b3 b4 b5 b6 b7 b8 b9 v0 c1 c2 c3 c4 c5 c6 c7 c8 c9 d0 d1 d2 d3 d4 d5 v1 v2 d8 Z a0 a1 a2 a3 a4 a5 a6 a7 a8 a9 b0:Value) (W':World),Below f.heap.size f W'->(m.cT k b (old)=true->(X.aH m.ks k).dup=true)->Q .normal (⟨#[.pointer (some ⟨q,0,none⟩), .string S, .int .i64 z,u3,u4,u5,d6, .string ⟨(ptQ st (m.cT k b old)).toArray⟩,u8, .int .i64 (k:Nat),Y,e5,f4,g5,h7,i8,j0,j1,j2,j3,j4,j5,j6,j7,j8,j9,k0,k1,k2,v4,k4,k5,k6,k7,k8,k9,l0,l1,l2,l3,l4,l5,l6,l7,l8,l9,m0,m1,m2,m3,m4,m5,m6,m7,m8,m9,n0,n1,n2,n3,n4,n5,n6,n7,n8,n9,o0,o1,o2,o3,o4,o5,b1,b2,b3,b4,b5,b6,b7,b8,b9,v0,c1,c2,c3,c4,c5,c6,c7,c8,c9,d0,d1,d2,d3,d4,d5,v1,v2,d8,Z,a0,a1,a2,a3,a4,a5,a6,a7,a8,a9,b0,e6,e7,e8,e9,f0,f1,f2,f3,f5,f6,f7,f8,f9,v3,g1,g2,g3,g4,g6,g7,g8,g9,h0,h2,h3,h4,h5,h6,h8,h9,i0,i1,i2,i3,i4,i5,i6,i7,i9],[]⟩:Act) W')
  (G:∀(d7 Y b1 b2 b3 b4 b5 b6 b7 b8 b9 v0 c1 c2 c3 c4 c5 c6 c7 c8 c9 d0 d1 d2 d3 d4 d5 v1 v2 d8 Z a0 a1 a2 a3 a4 a5 a6 a7 a8 a9 b0:Value) (W':World),Below f.heap.size f W'->m.cT k b (old)=true->(X.aH m.ks k).dup=false->Q .ret (⟨#[.pointer (some ⟨q,0,none⟩), .string S, .int .i64 z,u3,u4,u5, .string ⟨#[50,50]⟩,d7,u8, .int .i64 (k:Nat),Y,e5,f4,g5,h7,i8,j0,j1,j2,j3,j4,j5,j6,j7,j8,j9,k0,k1,k2,v4,k4,k5,k6,k7,k8,k9,l0,l1,l2,l3,l4,l5,l6,l7,l8,l9,m0,m1,m2,m3,m4,m5,m6,m7,m8,m9,n0,n1,n2,n3,n4,n5,n6,n7,n8,n9,o0,o1,o2,o3,o4,o5,b1,b2,b3,b4,b5,b6,b7,b8,b9,v0,c1,c2,c3,c4,c5,c6,c7,c8,c9,d0,d1,d2,d3,d4,d5,v1,v2,d8,Z,a0,a1,a2,a3,a4,a5,a6,a7,a8,a9,b0,e6,e7,e8,e9,f0,f1,f2,f3,f5,f6,f7,f8,f9,v3,g1,g2,g3,g4,g6,g7,g8,g9,h0,h2,h3,h4,h5,h6,h8,h9,i0,i1,i2,i3,i4,i5,i6,i7,i9],[]⟩:Act) W'):Code.wp Tryz.prog aaA Q (⟨#[.pointer (some ⟨q,0,none⟩), .string S, .int .i64 z,u3,u4,u5,u6, .string ⟨st.toArray⟩,u8, .int .i64 (k:Nat), .int .i64 0,e5,f4,g5,h7,i8,j0,j1,j2,j3,j4,j5,j6,j7,j8,j9,k0,k1,k2,v4,k4,k5,k6,k7,k8,k9,l0,l1,l2,l3,l4,l5,l6,l7,l8,l9,m0,m1,m2,m3,m4,m5,m6,m7,m8,m9,n0,n1,n2,n3,n4,n5,n6,n7,n8,n9,o0,o1,o2,o3,o4,o5,r7,r8,r9,s0,s1,s2,s3,s4,s5,s6,s7,s8,s9,t0,t1,t2,t3,t4,t5,t6,t7,t8,t9,u0,u1,u2,v5,v6,q5,q6,q7,q8,q9,r0,r1,r2,r3,r4,r5,r6,e6,e7,e8,e9,f0,f1,f2,f3,f5,f6,f7,f8,f9,v3,g1,g2,g3,g4,g6,g7,g8,g9,h0,h2,h3,h4,h5,h6,h8,h9,i0,i1,i2,i3,i4,i5,i6,i7,i9],[]⟩:Act) f:=by
 have H1:=ae h1;have H2:=ae G;have o:=ae h;have HF:=ae H;obtain⟨A,cv,rfl,p1,_⟩:=h.rows.aU;have V:=ae (λ(W:World) (hm:fH W q g c M m (.slice A l.length cv) l)=>hpart_any hm.row hm.ks k K b ((X.aS.1 d9).2 _ (X.aY K)) (by have:=(X.aS.1 d9).1;have:=H.ks.size;omega));rw[<-hS]at V;have p7:=ae (λx:HP=>dt (X.val m.ks k x.1.b) (X.val m.ks k b));have o6:=ae K;have HZ:=ae hz;have N:=ae (Vd (b:=b) (k:=k) h.eq L);have v8:(k:Int)<(m.ks.length:Nat):=by omega
 have p8:aa (∀i (I:i<l.length),i=j->decide (X.val m.ks k l[i].1.b=X.val m.ks k b)=false):=ae (λi I e=>by
  subst e;rw[<-p4,List.getElem?_eq_getElem I]at L;exact L)
 have u7:=H.len;have v7:l.length<=cv:=p1;clear p4 h H d9 L hS p1 h1 G K
 conv=>arg 2;whnf
 go_wp2_with fail;go_loopw [7,10] (fun t u W=>∃i:Nat,i<=l.length/\u= .int .i64 i/\t= .string ⟨(ptQ st (Vc m b k l i)).toArray⟩/\aa (Vc m b k l i=true->(X.aH m.ks k).dup=true)/\aa (Below f.heap.size f W)) (fun _ u _=>l.length - (intOf u).toNat)
 case atStart=>exact⟨0,Nat.zero_le _,rfl,rfl,ae (λe=>by cases e),ae (ak _ _)⟩
 case round=>
  obtain⟨i,I,rfl,rfl,P,n⟩:=hrel;have e3:=aj wr q (o.o.below n.o).row;by_cases w:i<l.length
  ·obtain⟨g0,c0,e0,q3,q4⟩:=o.o.rows.cells w;clear q3 q4;injection e0 with e0 e1 e2;subst e0 e2;have u9:(i:Int)<(l.length:Nat):=(by omega);have p3:=((o.o.below n.o).rows.cellAt w).1;have e4:wr.cell? ⟨g0,i*2,none⟩=some (.string ⟨l[i].1.b.toArray⟩):=p3;clear p3;have a:=ae w;have p:=ae (show i<=1000000 by omega);have r:=ae (QK (m:=m) (b:=b) (k:=k) w);have U:=ae (p8.o i w);have T:aa (((i:Int)=z/\i=j)\/¬(i:Int)=z):=ae (by have:=HZ.o;omega);have B:aa (Calls Tryz.prog 52 #[.pointer (some ⟨q,0,none⟩), .int .i64 (k:Nat), .string ⟨l[i].1.b.toArray⟩] wr λe w'=>e= .returned (.string ⟨(X.val m.ks k l[i].1.b).toArray⟩)/\Below wr.heap.size wr w'):=ae (HF.o.part (o.o.below n.o) o6.o l[i] (List.getElem_mem w));have d:=ae (p7.o l[i]);generalize p9:(⟨(X.val m.ks k l[i].1.b).toArray⟩:ByteArray)=VK at B d;generalize q0:(⟨(X.val m.ks k b).toArray⟩:ByteArray)=F at d V;generalize(⟨l[i].1.b.toArray⟩:ByteArray)=SI at e4 B;generalize X.val m.ks k l[i].1.b=vi at d r U;clear p9 q0 I;rcases T.o with⟨D,p2⟩|D
   ·have o8:=ae (U.o p2);clear p2 B d e4;have q1:((i:Int)==z)=true:=(by rw[D];simp);clear D T;go_wp2;go_roundw
    case rel=>exact⟨i+1,a.o,by first|exact gB i p.o|rfl,by rw[r.o,o8.o,Bool.or_false],ae (by rw[r.o,o8.o,Bool.or_false];exact P.o),n⟩
    case measure=>first|exact fy a.o p.o|exact eH a.o
   ·have q1:((i:Int)==z)=false:=(by simpa using D);clear D T U;go_wp2_with fail;refine B.o.mono ?_;rintro e w5 ⟨rfl,C⟩;have E:=ae (n.o.trans (C.mono n.o.size));have o9:=ae (V.o _ (o.o.below E.o));clear C B e4 e3;go_wp2_with fail;refine o9.o.mono ?_;rintro e w6 ⟨rfl,C⟩;have y:=ae (E.o.trans (C.mono E.o.size));clear C E o9;have e3:=aj w6 q (o.o.below y.o).row;have k3:=(o.o.below y.o).ks.dup o6.o;by_cases s:vi=X.val m.ks k b
    ·have hq:(VK.toList==F.toList)=true:=(by rw[d.o];exact decide_eq_true s);have q2:(VK.toList !=F.toList)=false:=(by rw[bne,hq];rfl);have p0:aa (Vc m b k l (i+1)=true):=ae (by rw[r.o,decide_eq_true s,Bool.or_true]);have p6:aa (m.cT k b (old)=true):=ae (by
      rw[<-N.o];have h1:=p0.o;unfold Vc at h1|-;rw[List.take_length];obtain⟨x,hx,G⟩:=List.any_eq_true.1 h1;exact List.any_eq_true.2 ⟨x,List.mem_of_mem_take hx,G⟩)
     clear s d;cases hd:(X.aH m.ks k).dup with
     |false=>
      rw[hd]at k3;have O:=ae hd;clear hd;go_wp2;exact H2.o _ _ _ _ _ _ _ _ _ _ _ _ _ _ _ _ _ _ _ _ _ _ _ _ _ _ _ _ _ _ _ _ _ _ _ _ _ _ _ _ _ _ _ y.o p6.o O.o
     |true=>
      rw[hd]at k3;have O:=ae hd;clear hd;go_wp2;go_roundw
      case rel=>exact⟨i+1,a.o,by first|exact gB i p.o|rfl,by rw[p0.o];rfl,ae (λ_=>O.o),y⟩
      case measure=>first|exact fy a.o p.o|exact eH a.o
    ·have hq:(VK.toList==F.toList)=false:=(by rw[d.o];exact decide_eq_false s);have q2:(VK.toList !=F.toList)=true:=(by rw[bne,hq];rfl);have o7:aa (decide (vi=X.val m.ks k b)=false):=ae (decide_eq_false s);clear s d e3 k3;go_wp2;go_roundw
     case rel=>exact⟨i+1,a.o,by first|exact gB i p.o|rfl,by rw[r.o,o7.o,Bool.or_false],ae (by rw[r.o,o7.o,Bool.or_false];exact P.o),y⟩
     case measure=>first|exact fy a.o p.o|exact eH a.o
  ·obtain rfl:i=l.length:=(by omega);have p5:=n;go_wp2;rw[N.o];exact H1.o _ _ _ _ _ _ _ _ _ _ _ _ _ _ _ _ _ _ _ _ _ _ _ _ _ _ _ _ _ _ _ _ _ _ _ _ _ _ _ _ _ _ _ p5.o (by rw[<-N.o];exact P.o)
end
section
variable {w w' : World} {q g c : Nat} {M : Nat -> Prop} {m m' : X.M} {v v' : Value} {l l' : List HP}
theorem Mn (h:fH w q g c M m v l) (md:Nat) (a:Bool) (d:(m.open md a).2≠[48,48]):
  Calls Tryz.prog 13 #[.pointer (some ⟨q,0,none⟩), .int .u8 (md:Nat), .bool a] w λe w'=>e= .returned (.string ⟨(m.open md a).2.toArray⟩)/\w=w'/\(m.open md a).1=m:=by
 have k:=aj w q h.row;clear h;revert d;unfold X.M.open;by_cases h1:md<1
 ·rw[if_pos (.inl h1)];intro _;have n:(md:Int)<1:=(by omega);go_enter Tryz.func13,Tryz.ntmps13;go_wp2;go_ret;exact⟨rfl,rfl⟩
 ·have n:¬(md:Int)<1:=(by omega);by_cases i:4<md
  ·rw[if_pos (.inr i)];intro _;have o:(4:Int)<(md:Nat):=(by omega);go_enter Tryz.func13,Tryz.ntmps13;go_wp2;go_ret;exact⟨rfl,rfl⟩
  ·rw[if_neg (by omega)];have o:¬(4:Int)<(md:Nat):=(by omega);by_cases f:m.mode≠0
   ·rw[if_pos f];intro _;have p:(0:Int)<(m.mode:Nat):=(by omega);go_enter Tryz.func13,Tryz.ntmps13;go_wp2;go_ret;exact⟨rfl,rfl⟩
   ·rw[if_neg f];have p:¬(0:Int)<(m.mode:Nat):=(by omega);by_cases b:md≠2/\m.there=false
    ·rw[if_pos b];intro _;have r:¬((md:Int)=2):=(by omega);rw[b.2]at k;go_enter Tryz.func13,Tryz.ntmps13;go_wp2;go_ret;exact⟨rfl,rfl⟩
    ·rw[if_neg b];intro d;exact absurd rfl d
theorem Mo (h:fH w q g c M m v l) (a:Bool) (h0:m.mode=0):
  Calls Tryz.prog 13 #[.pointer (some ⟨q,0,none⟩), .int .u8 2, .bool a] w λe w'=>e= .returned (.string ⟨#[48,48]⟩)/\HR w q g c M (m.opened 2 a) (.slice none 0 0) [] w':=by
 have p:=aj w q h.row;have t:=aD h.row;have f:=ae (ay (ay (ay (ay (World.grownBy.refl w (some q)) 3 (.bool true)) 4 (.slice none 0 0)) 5 (.int .i64 0)) 6 (.int .u8 2));have n:aa ((((((w.setCell ⟨q,3,none⟩ (.bool true)).setCell ⟨q,4,none⟩ (.slice none 0 0)).setCell ⟨q,5,none⟩ (.int .i64 0)).setCell ⟨q,6,none⟩ (.int .u8 2))).heap[q]? =some (gz {m with there:=true,rows:=[],time:=0,mode:=2} g c (.slice none 0 0))):=ae (aB (aB (aB (aB h.row 3 (.bool true)) 4 (.slice none 0 0)) 5 (.int .i64 0)) 6 (.int .u8 2));have u:=ae h;have y:¬(0:Int)<(m.mode:Nat):=by omega
 clear h;go_enter Tryz.func13,Tryz.ntmps13;go_upto_region 12 with fail;refine aL (λY=>w.grownBy Y (some q)/\Y.heap[q]? =some (gz {m with there:=true,rows:=[],time:=0,mode:=2} g c (.slice none 0 0))) ⟨f.o,n.o⟩ ?_;rintro W1 ⟨r,b⟩;have p:=aj W1 q b;have t:=aD b;have i:=ae (ay (ay (ay (ay r 7 (.bool a)) 8 (.int .i64 0)) 9 (.bool false)) 10 (.string ⟨#[]⟩));have o:aa ((((((W1.setCell ⟨q,7,none⟩ (.bool a)).setCell ⟨q,8,none⟩ (.int .i64 0)).setCell ⟨q,9,none⟩ (.bool false)).setCell ⟨q,10,none⟩ (.string ⟨#[]⟩))).heap[q]? =some (gz {m with there:=true,rows:=[],time:=0,mode:=2,ord:=a,key:=0,lost:=false,value:=[]} g c (.slice none 0 0))):=ae (aB (aB (aB (aB b 7 (.bool a)) 8 (.int .i64 0)) 9 (.bool false)) 10 (.string ⟨#[]⟩));clear r b f n y;go_upto_region 16 with fail;refine aL (λY=>w.grownBy Y (some q)/\Y.heap[q]? =some (gz {m with there:=true,rows:=[],time:=0,mode:=2,ord:=a,key:=0,lost:=false,value:=[]} g c (.slice none 0 0))) ⟨i.o,o.o⟩ ?_;rintro W2 ⟨s,d⟩;have p:=aj W2 q d;have t:=aD d;have k:=ae (ay (ay (ay (ay s 11 (.int .i64 0)) 12 (.bool true)) 14 (.bool false)) 15 (.string ⟨#[]⟩));have x:aa ((((((W2.setCell ⟨q,11,none⟩ (.int .i64 0)).setCell ⟨q,12,none⟩ (.bool true)).setCell ⟨q,14,none⟩ (.bool false)).setCell ⟨q,15,none⟩ (.string ⟨#[]⟩))).heap[q]? =some (gz (m.opened 2 a) g c (.slice none 0 0))):=ae (aB (aB (aB (aB d 11 (.int .i64 0)) 12 (.bool true)) 14 (.bool false)) 15 (.string ⟨#[]⟩));clear s d i o;go_wp2;go_ret;exact⟨rfl,k.o,u.o.QI k.o x.o rfl lU.dV rfl⟩
end
section
variable {w0 : World} {p pf g c size ct u : Nat} {nm : J.B} {ks : List X.Ky} {rows : List X.Row} {f : Fv} {w w' : World} {s s1 s2 : J.St} {fs : List (Nat × Obj)} {ok : Obj}
variable {chs : List J.cd} {now : List (J.B × J.B)} {b : J.B} {old : Option X.Row}
theorem Vi {ct:Nat} (h:ct<1000000):ct<4294967296/\ct+1<4294967296:=⟨by omega,by omega⟩
theorem nY {k:Nat} (h:k<=1000000):wrap64 ((k:Int)+1)=(k:Int)+1:=IntWalk.wrap64_in _ (by omega)
theorem rM {k:Nat} (h:k<=1000000):IntKind.i64.wrap ((k:Int)+1)=(k:Int)+1:=by rw[IntKind.wrap_i64];omega
theorem Vj (X:World) (n:Nat):Sl (X.alloc (.cells (dK (R.cp n)).toArray 5 (0,0))) bE (.slice (some ⟨X.heap.size,0,none⟩) 4 4) (R.cp n):=
 .inr ⟨X.heap.size,0,4,rfl,aq _,by simp,Jr X n⟩
theorem Eo (a:XF nm size ks rows ct s.now) (f:X.FC s [] s.now 0) (c:X.bt ks size b=true):
  J.add (X.opened s [] s.now) ⟨X.cK nm,R.cp (ct+1),false⟩=(X.opened s [⟨X.cK nm,R.cp (ct+1),false⟩] (J.ins s.now (X.cK nm) (R.cp (ct+1))),0)/\
  J.add (X.opened s [⟨X.cK nm,R.cp (ct+1),false⟩] (J.ins s.now (X.cK nm) (R.cp (ct+1)))) ⟨X.cy nm 0 (X.val ks 0 b) 0,b,false⟩=(X.opened s [⟨X.cK nm,R.cp (ct+1),false⟩,⟨X.cy nm 0 (X.val ks 0 b) 0,b,false⟩] (J.ins (J.ins s.now (X.cK nm) (R.cp (ct+1))) (X.cy nm 0 (X.val ks 0 b) 0) b),0)/\
  ∀w',At w0 p fs (X.opened s [⟨X.cK nm,R.cp (ct+1),false⟩,⟨X.cy nm 0 (X.val ks 0 b) 0,b,false⟩] (J.ins (J.ins s.now (X.cK nm) (R.cp (ct+1))) (X.cy nm 0 (X.val ks 0 b) 0) b)) w'->
   NK w0 p fs s nm size ks ct rows b old 0 [⟨X.cK nm,R.cp (ct+1),false⟩,⟨X.cy nm 0 (X.val ks 0 b) 0,b,false⟩] (J.ins (J.ins s.now (X.cK nm) (R.cp (ct+1))) (X.cy nm 0 (X.val ks 0 b) 0) b) w':=by
 have q:=a.ks.one;have l:=X.bc c (i:=0) (by omega);have m:=a.lens (i:=0) (by omega);have n:=X.cZ nm 0 (X.val ks 0 b) 0;have o:=a.nm;have r:=(X.aS.1 c).1;have t:=a.ks.size;have h:X.cK nm≠[]:=λe=>by have:=X.sG nm;rw[e]at this;simp at this
 have v:=X.sG nm;have u:(R.cp (ct+1)).length=4:=rfl;have g:=f.put (X.cK nm) (R.cp (ct+1)) h (by omega) (by omega) (aq _);have d:=g.put (X.cy nm 0 (X.val ks 0 b) 0) b (lX _ _ _ _) (by omega) (by omega) (aq _);have x:(J.encs [⟨X.cK nm,R.cp (ct+1),false⟩]).length<=_:=g.len;have w:=f.len;refine⟨X.rJ _ _ _ _ _ (by omega),X.rJ _ _ _ _ _ (by omega),λw' ha=>⟨ha,⟨d.inv, ?_, .inr (d.mn.resolve_left (by omega))⟩,X.LO a.con a.ks a.rows c, ?_⟩⟩
 ·have:=d.len;show(J.encs _).length<=_;refine aw this ?_;omega
 ·have a1:=lj s.now (X.cK nm) (R.cp (ct+1));have j:=lj (J.ins s.now (X.cK nm) (R.cp (ct+1))) (X.cy nm 0 (X.val ks 0 b) 0) b;have k:=a.many;omega
theorem Yq:(∀{w0:World} {p pf g c size ct:Nat} {nm:J.B} {ks:List X.Ky} {rows:List X.Row} {f:Fv} {w:World} {s:J.St} {fs:List (Nat×Obj)} {ok:Obj} {b:J.B} {o:X.Row} (h:At w0 p fs (X.opened s [] s.now) w) (hF:(pf,ax p nm size g ks.length c f)∈fs) (b7:(g,ok)∈fs) (hO:bR ok ks) (c4:ks.length<=c) (Bf Bp Bb Bo:Nat) (A:Option Addr) (cb:Nat) (vo:Value) (b9:(Bf,aO pf)∈fs) (c0:(Bp,aZ ⟨(X.val ks 0 b).toArray⟩)∈fs) (c1:(Bb,bW (.slice A b.length cb))∈fs) (c2:(Bo,bW vo)∈fs) (S:XF nm size ks rows ct s.now) (hT:X.FC s [] s.now 0) (b6:Src w0 p fs (.slice A b.length cb) b) (a9:X.bt ks size b=true) (c5:rows.find? (λr=>decide (X.val ks 0 r.b=X.val ks 0 b))=some o) (c8:tu w0 p fs vo (some o)),Calls Tryz.prog 106 #[.pointer (some ⟨Bf,0,none⟩), .pointer (some ⟨Bp,0,none⟩), .pointer (some ⟨Bb,0,none⟩), .pointer (some ⟨Bo,0,none⟩)] w λe w'=>(∃v,e= .returned v)/\∃chs now,NK w0 p fs s nm size ks ct rows b (some o) (ks.length - 1) chs now w')/\(∀{w0:World} {p pf g c size ct:Nat} {nm:J.B} {ks:List X.Ky} {rows:List X.Row} {f:Fv} {w:World} {s:J.St} {fs:List (Nat×Obj)} {ok:Obj} {b:J.B} (h:At w0 p fs (X.opened s [] s.now) w) (hF:(pf,ax p nm size g ks.length c f)∈fs) (b7:(g,ok)∈fs) (hO:bR ok ks) (c4:ks.length<=c) (Bf Bp Bb Bo:Nat) (A:Option Addr) (cb:Nat) (vo:Value) (b9:(Bf,aO pf)∈fs) (c0:(Bp,aZ ⟨(X.val ks 0 b).toArray⟩)∈fs) (c1:(Bb,bW (.slice A b.length cb))∈fs) (c2:(Bo,bW vo)∈fs) (S:XF nm size ks rows ct s.now) (hT:X.FC s [] s.now 0) (b6:Src w0 p fs (.slice A b.length cb) b) (a9:X.bt ks size b=true) (c5:rows.find? (λr=>decide (X.val ks 0 r.b=X.val ks 0 b))=none) (c8:tu w0 p fs vo none),Calls Tryz.prog 106 #[.pointer (some ⟨Bf,0,none⟩), .pointer (some ⟨Bp,0,none⟩), .pointer (some ⟨Bb,0,none⟩), .pointer (some ⟨Bo,0,none⟩)] w λe w'=>(∃v,e= .returned v)/\∃chs now,NK w0 p fs s nm size ks ct rows b none (ks.length - 1) chs now w'):=by
 refine⟨?z0, ?z1⟩
 case' z0=>intro w0 p pf g c size ct nm ks rows f w s fs ok b o h hF b7 hO c4 Bf Bp Bb Bo A cb vo b9 c0 c1 c2 S hT b6 a9 c5 c8
 case' z1=>(intro w0 p pf g c size ct nm ks rows f w s fs ok b h hF b7 hO c4 Bf Bp Bb Bo A cb vo b9 c0 c1 c2 S hT b6 a9 c5 c8;have b0:=trivial)
 all_goals
  first
   |have b0:=b0
    obtain⟨q1,q2,q3⟩:=Eo (w0:=w0) (p:=p) (fs:=fs) (old:=none) S hT a9
    skip
   |obtain⟨q1,q2,q3⟩:=Eo (w0:=w0) (p:=p) (fs:=fs) (old:=some o) S hT a9
  have e7:=S.ks.one;have e8:=S.ks.size;obtain⟨i3,g1⟩:=X.aS.1 a9;have g4:=S.nm;have e4:=S.ct;have e3:=X.sG nm;have j6:=X.bc a9 (i:=0) (by omega);have i7:=S.lens (i:=0) (by omega);have h5:=X.cZ nm 0 (X.val ks 0 b) 0;have i4:wrap64 ((ct:Int)+1)=((ct+1:Nat):Int):=nY (Nat.le_of_lt e4);have f6:=ae (λw1 (hh:At w0 p fs (X.opened s [] s.now) w1)=>DY hh nm size (some ⟨g,0,none⟩) ks.length c ct (Vi S.ct).1 S.con.tim g4);have HU:=ae (λW B hB=>gu nm [67] W B hB (by omega) (by simp));have e1:nm++0::[67]=X.cK nm:=rfl;rw[e1]at HU;have N:=ae (λa4 t (hs:∀x∈fs,x∈a4) w1 (hh:At w0 p a4 t w1)=>(⟨hh.get (hs _ hF),hh.get (hs _ b9),hh.get (hs _ c0),hh.get (hs _ c1),hh.get (hs _ c2)⟩:w1.heap[pf]? =some (ax p nm size g ks.length c f)/\w1.heap[Bf]? =some (aO pf)/\w1.heap[Bp]? =some (aZ ⟨(X.val ks 0 b).toArray⟩)/\w1.heap[Bb]? =some (bW (.slice A b.length cb))/\w1.heap[Bo]? =some (bW vo)));have d8:=ae (λW=>kK ((ct+1:Nat):Int) W);rw[kG (Vi e4).2]at d8;have f0:=ae (λw1 (hh:At w0 p fs (X.opened s [] s.now) w1) v (hv:Sl w1 bE v (R.cp (ct+1)))=>wL hh rfl (X.cK nm) (R.cp (ct+1)) v (λe=>by rw[e]at e3;simp at e3) (by omega) (by show 4<=8192;decide) hv 0 q1);have HE:=ae (λW=>dM nm size (some ⟨g,0,none⟩) ks.length c 0 0 (X.val ks 0 b) (by decide) (by decide) (by omega) (by omega) W);have f1:=ae (λw1 (hh:At w0 p fs (X.opened s [⟨X.cK nm,R.cp (ct+1),false⟩] (J.ins s.now (X.cK nm) (R.cp (ct+1)))) w1)=>wL hh rfl (X.cy nm 0 (X.val ks 0 b) 0) b (.slice A b.length cb) (lX _ _ _ _) (by omega) (by omega) (b6 _ _ _ (λ_ m=>m) hh) 0 q2);have f2:=ae q3;have h6:=ae (λa4 t (hs:∀x∈fs,x∈a4) w1 (hh:At w0 p a4 t w1)=>hO.2 w1 g (hh.get (hs _ b7)));obtain⟨A',d6,f8⟩:=ig g ks.length c e7.1 c4;have f4:=ae d6;have g9:=ae f8;have HX:=ae S;have b1:=ae a9;have d4:=ae c5;have e9:=ae c8;have h8:=ae b6;have j3:=ae hF;have j4:=ae b7;have HO:=ae hO;have HA:=ae h;have a7:=ae e7;have h0:=ae (show b.length<=4096 by omega);have j2:=ae g1;have f7:=ae (show(X.val ks 0 b).length<=160 by omega);generalize g6:(⟨(X.val ks 0 b).toArray⟩:ByteArray)=pv at N HE;have b5:=ae g6;clear h hF b7 hO c4 b9 c0 c1 c2 S hT b6 a9 c5 c8 q1 q2 q3 e7 e8 i3 g1 g4 e4 e3 j6 i7 h5 e1 d6 f8 g6;go_enter Tryz.func106,Tryz.ntmps106;go_upto_region 0 with fail;refine aJ 8 (.rd 0 (.rd 1 (.rd 2 (.rd 3 (.rd 4 (.rd 5 (.rd 6 (.rd 7 .fin)))))))) (λw'=>At w0 p fs (X.opened s [] s.now) w') (HA.o.below ((ak _ _).drew)) ?_;repeat
   refine aA (v:= ?_) (λw' y=> ?_) (λK a=> ?_);rotate_left
   ·obtain⟨r1,r2,n,q,u⟩:=N.o fs (X.opened s [] s.now) (λ_ m=>m) w' y;have F:=aj w' pf r1;have G:=aj w' Bf r2;have H:=aj w' Bp n;have I:=aj w' Bb q;have M:=aj w' Bo u;clear r1 r2 n q u;clear y;go_simp;try with_reducible rfl
   go_simp;refine a _ ?_;clear a K
  show wpList _ _ _ _ _ _;go_wp2_with fail;refine(f6.o _ (HA.o.below ((ak _ _).drew))).mono ?_;rintro e W1 ⟨rfl,ha,_⟩;have d2:=ae ha;clear ha f6 HA;go_wp2_with fail;refine aJ 13 (.rd 0 (.rd 1 (.rd 2 (.rd 3 (.rd 4 (.rd 5 (.rd 6 (.rd 7 (.rd 8 (.rd 11 (.wr 9 (.wr 10 (.wr 12 .fin))))))))))))) (λw'=>At w0 p fs (X.opened s [] s.now) w') (d2.o.below ((ak _ _).drew)) ?_;repeat
   refine aA (v:= ?_) (λw' y=> ?_) (λK a=> ?_);rotate_left
   ·obtain⟨r1,r2,n,q,u⟩:=N.o fs (X.opened s [] s.now) (λ_ m=>m) w' y;have F:=aj w' pf r1;have G:=aj w' Bf r2;have H:=aj w' Bp n;have I:=aj w' Bb q;have M:=aj w' Bo u;clear r1 r2 n q u;clear y;go_simp;try with_reducible rfl
   go_simp;refine a _ ?_;clear a K
  refine az (λK a=> ?_);go_simp;refine a.out _ _ (λw'=>At w0 p fs (X.opened s [] s.now) w') (λ_ h=>h) ((d2.o.below ((ak _ _).drew)).below ((ak _ _).alloc (aq _) _)) ?_;clear a K;refine az (λK a=> ?_);go_simp;refine(HU.o W1.drew W1.heap.size rfl).mono ?_;rintro e W2 ⟨rfl,l⟩;have d7:=ae (d2.o.below (((ak _ W1).drew).trans l));refine a.out _ _ (λw'=>At w0 p fs (X.opened s [] s.now) w') (λ_ h=>h) d7.o ?_;clear a K l HU d2;refine az (λK a=> ?_);go_simp;refine(d8.o _).mono ?_;rintro e W3 ⟨rfl,i1⟩;subst i1;have E:=ae (d7.o.below ((ak _ W2).alloc (aq _) (.cells (dK (R.cp (ct+1))).toArray 5 (0,0))));refine a.out _ _ (λw'=>At w0 p fs (X.opened s [] s.now) w') (λ_ h=>h) E.o ?_;clear a K d8;show wpList _ _ _ _ _ _;go_wp2_with fail;refine(f0.o _ E.o _ (Vj W2 (ct+1))).mono ?_;rintro e W4 ⟨rfl,ha⟩;have C:=ae ha;clear ha f0 E d7 i4;go_wp2_with fail;refine aJ 11 (.rd 0 (.rd 1 (.rd 2 (.rd 3 (.rd 4 (.rd 5 (.rd 6 (.rd 7 (.rd 8 (.rd 10 (.wr 9 .fin))))))))))) (λw'=>At w0 p fs (X.opened s [⟨X.cK nm,R.cp (ct+1),false⟩] (J.ins s.now (X.cK nm) (R.cp (ct+1)))) w') (C.o.below ((ak _ _).drew)) ?_;repeat
   refine aA (v:= ?_) (λw' y=> ?_) (λK a=> ?_);rotate_left
   ·obtain⟨r1,r2,n,q,u⟩:=N.o fs (X.opened s [⟨X.cK nm,R.cp (ct+1),false⟩] (J.ins s.now (X.cK nm) (R.cp (ct+1)))) (λ_ m=>m) w' y;have F:=aj w' pf r1;have G:=aj w' Bf r2;have H:=aj w' Bp n;have I:=aj w' Bb q;have M:=aj w' Bo u;clear r1 r2 n q u;clear y;go_simp;try with_reducible rfl
   go_simp;refine a _ ?_;clear a K
  refine az (λK a=> ?_);go_simp;refine(HE.o _).mono ?_;rintro e W5 ⟨rfl,l⟩;have Z:=ae (C.o.below (((ak _ W4).drew).trans l));clear l HE C;refine a.out _ _ (λw'=>At w0 p fs (X.opened s [⟨X.cK nm,R.cp (ct+1),false⟩] (J.ins s.now (X.cK nm) (R.cp (ct+1)))) w') (λ_ h=>h) Z.o ?_;clear a K;show wpList _ _ _ _ _ _;go_wp2_with fail;refine(f1.o _ Z.o).mono ?_;rintro e W6 ⟨rfl,ha⟩;have d9:=ae (f2.o _ ha);clear ha f1 Z f2;obtain⟨r1,r2,n,q,u⟩:=N.o fs (X.opened s [⟨X.cK nm,R.cp (ct+1),false⟩,⟨X.cy nm 0 (X.val ks 0 b) 0,b,false⟩] (J.ins (J.ins s.now (X.cK nm) (R.cp (ct+1))) (X.cy nm 0 (X.val ks 0 b) 0) b)) (λ_ m=>m) W6 d9.o.at_;have F:=aj W6 pf r1;have G:=aj W6 Bf r2;have H:=aj W6 Bp n;have I:=aj W6 Bb q;have M:=aj W6 Bo u;clear r1 r2 n q u;have d6:=f4.o;clear f4;go_wp2;clear F G H I M d6;first
   |have b0:=b0
    go_loopw [50] (fun t W=>∃k:Nat,k<=ks.length - 1/\t= .int .i64 k/\∃chs now,aa (NK w0 p fs s nm size ks ct rows b none k chs now W)) (fun t _=>ks.length - 1 - (intOf t).toNat)
   |go_loopw [50] (fun t W=>∃k:Nat,k<=ks.length - 1/\t= .int .i64 k/\∃chs now,aa (NK w0 p fs s nm size ks ct rows b (some o) k chs now W)) (fun t _=>ks.length - 1 - (intOf t).toNat)
  case atStart=>exact⟨0,Nat.zero_le _,rfl,_,_,d9⟩
  case round=>
   clear d9;obtain⟨k,hk,rfl,chs,now,HI⟩:=hrel;by_cases i8:k<ks.length - 1
   ·have c7:k+1<ks.length:=(by omega);have O:=ae c7;have z:=ae i8;have a6:aa (k<=1000000):=ae (by have:=a7.o;omega);have e1:A'=some ⟨g,3,none⟩:=g9.o (by omega);subst e1;have d5:=h6.o fs _ (λ_ m=>m) wr HI.o.at_;have k1:=d5.at_ c7;have k2:=d5.len c7;have k3:=d5.dup c7;rw[show(k+1)*3=3+k*3 by omega]at k1 k2 k3;have i6:(k:Int)<((ks.length - 1:Nat):Int):=(by omega);have HZ:=ae (heap_alloc_new wr dU);clear d5 c7;go_wp2_with (refine wpList_store_row rfl _ _ 66 rfl wr.heap.size rfl _ rfl _ _ HZ.o rfl (by kernel_rfl) rfl ?_);intro W2 c9 hg e8;obtain⟨i2,g0⟩:=HI.o.at_.stored dU hg;have c9:W2.heap[wr.heap.size]? =some (aT (X.aH ks (k+1))):=c9;have e2:=HI.o.at_.add g0 (gs:=[(wr.heap.size,aT (X.aH ks (k+1)))]) (λx m=>by simp only[List.mem_singleton]at m;subst m;exact⟨aq _,c9⟩);generalize i0:wr.heap.size=d at e2 c9|-;have E:aa (At w0 p ((d,aT (X.aH ks (k+1)))::fs) (X.opened s chs now) W2):=ae e2;have a3:=ae (λa4 t (hs:∀x∈fs,x∈a4) w1 (hh:At w0 p a4 t w1)=>cG (X.aH ks (k+1)) (.slice A b.length cb) b bE w1 (h8.o _ _ _ hs hh) (j2.o _ (X.aY O.o)) (by have:=h0.o;omega));have d1:(X.aH ks (k+1)).val b=X.val ks (k+1) b:=rfl;rw[d1]at a3;clear d1 k1 k2 k3 i6 HZ i2 g0 c9 hg e8 e2 i0;first
     |have b0:=b0
      have b8:vo= .slice none 0 0:=e9.o
      skip
     |obtain⟨⟨bo,oo,co,b8⟩,g8⟩:=e9.o
    subst b8;first
     |have b0:=b0
      obtain⟨c3,c6⟩:=UQ HI.o HX.o b1.o d4.o O.o;have a1:=ae (λW=>dM nm size (some ⟨g,0,none⟩) ks.length c (k+1) (ct+1) (X.val ks (k+1) b) (by have:=a7.o;omega) (Vi HX.o.ct).2 (by have:=HX.o.nm;omega) (by have h1:=X.bc b1.o O.o;have h2:=HX.o.lens O.o;omega) W);have V:=ae (λw1 (hh:At w0 p ((d,aT (X.aH ks (k+1)))::fs) (X.opened s chs now) w1) v (hv:Sl w1 bE v (X.val ks 0 b))=>wL hh rfl (X.cy nm (k+1) (X.val ks (k+1) b) (ct+1)) (X.val ks 0 b) v (lX _ _ _ _) (by have h1:=X.cZ nm (k+1) (X.val ks (k+1) b) (ct+1);have h2:=X.bc b1.o O.o;have h3:=HX.o.lens O.o;have h4:=HX.o.nm;omega) (by have:=f7.o;omega) hv 0 c3);have a8:=ae (c6);have g2:wrap64 ((k:Int)+1)=(k:Int)+1:=nY (by have:=z.o;have:=a7.o;omega);have i5:IntKind.i64.wrap ((k:Int)+1)=(k:Int)+1:=rM (by have:=z.o;have:=a7.o;omega);generalize d0:(⟨(X.val ks (k+1) b).toArray⟩:ByteArray)=ve at a3 a1;generalize e5:(⟨(X.cy nm (k+1) (X.val ks (k+1) b) (ct+1)).toArray⟩:ByteArray)=ee at a1 V;clear d0 e5;clear c3 c6;go_wp2_with fail;refine aR (.rd 0 (.rd 1 (.rd 2 (.rd 3 (.rd 4 (.rd 6 (.rd 7 (.wr 5 (.wr 8 (.rd 9 (.rd 10 .fin))))))))))) (λw'=>At w0 p ((d,aT (X.aH ks (k+1)))::fs) (X.opened s chs now) w') (E.o.below ((ak _ _).drew)) ?_;repeat
       first
        |refine aA (v:= ?_) (λw' y=> ?_) (λK a=> ?_)
         rotate_left
         ·obtain⟨r1,r2,n,q,u⟩:=N.o ((d,aT (X.aH ks (k+1)))::fs) (X.opened s chs now) (λx m=>ag _ m) w' y;have F:=aj w' pf r1;have G:=aj w' Bf r2;have H:=aj w' Bp n;have I:=aj w' Bb q;have M:=aj w' Bo u;clear r1 r2 n q u;have b4:=aj w' d (y.get (af:(d,aT (X.aH ks (k+1)))∈((d,aT (X.aH ks (k+1)))::fs)));clear y;go_simp;try with_reducible rfl
         go_simp;refine a _ ?_;clear a K
        |refine aF (λK a=> ?_)
         go_simp;refine a _ ?_;clear a K
      iterate 2
       refine az (λK a=> ?_);go_simp;refine a.out _ _ (λw'=>At w0 p ((d,aT (X.aH ks (k+1)))::fs) (X.opened s chs now) w') (λ_ h=>h) (E.o.below ((ak _ _).drew)) ?_;clear a K
      repeat
       first
        |refine aA (v:= ?_) (λw' y=> ?_) (λK a=> ?_)
         rotate_left
         ·obtain⟨r1,r2,n,q,u⟩:=N.o ((d,aT (X.aH ks (k+1)))::fs) (X.opened s chs now) (λx m=>ag _ m) w' y;have F:=aj w' pf r1;have G:=aj w' Bf r2;have H:=aj w' Bp n;have I:=aj w' Bb q;have M:=aj w' Bo u;clear r1 r2 n q u;have b4:=aj w' d (y.get (af:(d,aT (X.aH ks (k+1)))∈((d,aT (X.aH ks (k+1)))::fs)));clear y;go_simp;try with_reducible rfl
         go_simp;refine a _ ?_;clear a K
        |refine aF (λK a=> ?_)
         go_simp;refine a _ ?_;clear a K
      show wpList _ _ _ _ _ _;refine aL (λY=>At w0 p ((d,aT (X.aH ks (k+1)))::fs) (X.opened s chs now) Y) (E.o.below ((ak _ _).drew)) ?_;intro W4 f9;have C:=ae f9;clear f9 E;obtain⟨r1,r2,n,q,u⟩:=N.o ((d,aT (X.aH ks (k+1)))::fs) (X.opened s chs now) (λx m=>ag _ m) W4 C.o;have F:=aj W4 pf r1;have G:=aj W4 Bf r2;have H:=aj W4 Bp n;have I:=aj W4 Bb q;have M:=aj W4 Bo u;clear r1 r2 n q u;go_wp2_with fail;clear F G H I M;refine aJ 17 (.rd 0 (.rd 1 (.rd 2 (.rd 3 (.rd 4 (.rd 5 (.rd 6 (.rd 7 (.rd 8 (.rd 9 (.rd 10 (.rd 11 (.rd 13 (.rd 15 (.two 12 (.two 14 (.wr 16 .fin) 16 (.wr 14 .fin)) 16 (.wr 12 (.wr 14 .fin))))))))))))))))) (λw'=>At w0 p ((d,aT (X.aH ks (k+1)))::fs) (X.opened s chs now) w') (C.o.below ((ak _ _).drew)) ?_;repeat
       refine aA (v:= ?_) (λw' y=> ?_) (λK a=> ?_);rotate_left
       ·obtain⟨r1,r2,n,q,u⟩:=N.o ((d,aT (X.aH ks (k+1)))::fs) (X.opened s chs now) (λx m=>ag _ m) w' y;have F:=aj w' pf r1;have G:=aj w' Bf r2;have H:=aj w' Bp n;have I:=aj w' Bb q;have M:=aj w' Bo u;clear r1 r2 n q u;have b4:=aj w' d (y.get (af:(d,aT (X.aH ks (k+1)))∈((d,aT (X.aH ks (k+1)))::fs)));clear y;go_simp;try with_reducible rfl
       go_simp;refine a _ ?_;clear a K
      refine dX (by rfl) (by rfl) (λK a=> ?_) (λK a=> ?_)
      ·go_simp;refine(a3.o _ _ (λx m=>ag _ m) _ (C.o.below ((ak _ _).drew))).mono ?_;rintro e V1 ⟨rfl,l⟩;have T:=ae (((C.o.below ((ak _ _).drew)):At w0 p ((d,aT (X.aH ks (k+1)))::fs) (X.opened s chs now) _).below l);clear l;refine a.out _ _ (λw'=>At w0 p ((d,aT (X.aH ks (k+1)))::fs) (X.opened s chs now) w') (λ_ h=>h) T.o ?_;clear a K;refine dX (by rfl) (by rfl) (λK a=> ?_) (λK a=> ?_);have P:=trivial
       all_goals
        first
         |have P:=P
          skip
         |obtain⟨cc,V2,a5,D,l⟩:=gA V1 (X.val ks 0 b) pv b5.o
        go_simp;first
         |have P:=P
          refine(a1.o _).mono ?_;rintro e V2 ⟨rfl,l⟩
         |skip
        have a0:=ae ((T.o:At w0 p ((d,aT (X.aH ks (k+1)))::fs) (X.opened s chs now) _).below l);first
         |have P:=P
          clear l
         |have a2:=ae D
          clear l D a5
        refine a.out _ _ (λw'=>At w0 p ((d,aT (X.aH ks (k+1)))::fs) (X.opened s chs now) w') (λ_ h=>h) a0.o ?_;clear a K;refine az (λK a=> ?_);first
         |have P:=P
          obtain⟨cc,V3,a5,D,l⟩:=gA V2 (X.val ks 0 b) pv b5.o
          skip
         |skip
        go_simp;first
         |have P:=P
          skip
         |refine(a1.o _).mono ?_
          rintro e V3 ⟨rfl,l⟩
        have U:=ae ((a0.o:At w0 p ((d,aT (X.aH ks (k+1)))::fs) (X.opened s chs now) _).below l);first
         |have P:=P
          have a2:=ae D;clear l D a5
         |have b2:=ae ((a2.o).step (Step.aC l))
          clear l
        refine a.out _ _ (λw'=>At w0 p ((d,aT (X.aH ks (k+1)))::fs) (X.opened s chs now) w') (λ_ h=>h) U.o ?_;clear a K;show wpList _ _ _ _ _ _;go_wp2_with fail;first
         |have P:=P
          refine(V.o _ U.o _ a2.o).mono ?_
         |refine(V.o _ U.o _ b2.o).mono ?_
        rintro e W9 ⟨rfl,ha⟩;have HJ:=ae (a8.o _ (ha.less (λx m=>ag _ m)));clear ha V a8;go_wp2;go_roundw
        case rel=>exact⟨k+1,z.o,by first|exact cD k a6.o|exact bV k,_,_,HJ⟩
        case measure=>first|exact bZ z.o a6.o|exact bN z.o
      ·obtain⟨cc,V1,a5,D,l⟩:=gA W4.drew (X.val ks 0 b) pv b5.o;go_simp;have T:=ae (((C.o.below ((ak _ _).drew)):At w0 p ((d,aT (X.aH ks (k+1)))::fs) (X.opened s chs now) _).below l);have a2:=ae D;clear l D a5;refine a.out _ _ (λw'=>At w0 p ((d,aT (X.aH ks (k+1)))::fs) (X.opened s chs now) w') (λ_ h=>h) T.o ?_;clear a K;refine az (λK a=> ?_);go_simp;refine(a3.o _ _ (λx m=>ag _ m) _ T.o).mono ?_;rintro e V2 ⟨rfl,l⟩;have a0:=ae ((T.o:At w0 p ((d,aT (X.aH ks (k+1)))::fs) (X.opened s chs now) _).below l);have e0:=ae ((a2.o).step (Step.aC l));clear l;refine a.out _ _ (λw'=>At w0 p ((d,aT (X.aH ks (k+1)))::fs) (X.opened s chs now) w') (λ_ h=>h) a0.o ?_;clear a K;refine az (λK a=> ?_);go_simp;refine(a1.o _).mono ?_;rintro e V3 ⟨rfl,l⟩;have U:=ae ((a0.o:At w0 p ((d,aT (X.aH ks (k+1)))::fs) (X.opened s chs now) _).below l);have b2:=ae ((e0.o).step (Step.aC l));clear l;refine a.out _ _ (λw'=>At w0 p ((d,aT (X.aH ks (k+1)))::fs) (X.opened s chs now) w') (λ_ h=>h) U.o ?_;clear a K;show wpList _ _ _ _ _ _;go_wp2_with fail;refine(V.o _ U.o _ b2.o).mono ?_;rintro e W9 ⟨rfl,ha⟩;have HJ:=ae (a8.o _ (ha.less (λx m=>ag _ m)));clear ha V a8;go_wp2;go_roundw
       case rel=>exact⟨k+1,z.o,by first|exact cD k a6.o|exact bV k,_,_,HJ⟩
       case measure=>first|exact bZ z.o a6.o|exact bN z.o
     |have ho:=(X.bI d4.o).1
      have e6:=HX.o.rows.fit o ho;obtain⟨i9,g5⟩:=X.aS.1 e6;have f5:=ae g8;have h7:=ae e6;have b3:=ae (λa4 t (hs:∀x∈fs,x∈a4) w1 (hh:At w0 p a4 t w1)=>cG (X.aH ks (k+1)) (.slice (some ⟨bo,oo,none⟩) o.b.length co) o.b bE w1 (f5.o _ _ _ hs hh) (g5 _ (X.aY O.o)) (by have:=HX.o.ks.size;omega));have d1:(X.aH ks (k+1)).val o.b=X.val ks (k+1) o.b:=rfl;rw[d1]at b3;have hq:=dt (X.val ks (k+1) o.b) (X.val ks (k+1) b);have g3:X.keeps ks (k+1) b (some o)=decide (X.val ks (k+1) o.b=X.val ks (k+1) b):=rfl;rw[<-g3]at hq;clear d1 g3 g8 e6 i9 g5;cases Ej:X.keeps ks (k+1) b (some o)with
       |true=>
        as_aux_lemma=>
         rw[Ej]at hq;generalize d0:(⟨(X.val ks (k+1) b).toArray⟩:ByteArray)=ve at a3 hq;generalize b8:(⟨(X.val ks (k+1) o.b).toArray⟩:ByteArray)=j1 at b3 hq;have j5:=ae Ej;have g2:wrap64 ((k:Int)+1)=(k:Int)+1:=nY (by have:=z.o;have:=a7.o;omega);clear d0 b8 Ej;go_wp2_with fail;refine aR (.rd 0 (.rd 1 (.rd 2 (.rd 3 (.rd 4 (.rd 6 (.rd 7 (.wr 5 (.wr 8 (.rd 9 (.rd 10 .fin))))))))))) (λw'=>At w0 p ((d,aT (X.aH ks (k+1)))::fs) (X.opened s chs now) w') (E.o.below ((ak _ _).drew)) ?_;repeat
          first
           |refine aA (v:= ?_) (λw' y=> ?_) (λK a=> ?_)
            rotate_left
            ·obtain⟨r1,r2,n,q,u⟩:=N.o ((d,aT (X.aH ks (k+1)))::fs) (X.opened s chs now) (λx m=>ag _ m) w' y;have F:=aj w' pf r1;have G:=aj w' Bf r2;have H:=aj w' Bp n;have I:=aj w' Bb q;have M:=aj w' Bo u;clear r1 r2 n q u;have b4:=aj w' d (y.get (af:(d,aT (X.aH ks (k+1)))∈((d,aT (X.aH ks (k+1)))::fs)));clear y;go_simp;try with_reducible rfl
            go_simp;refine a _ ?_;clear a K
           |refine aF (λK a=> ?_)
            go_simp;refine a _ ?_;clear a K
         refine az (λK a=> ?_);go_simp;refine(b3.o _ _ (λx m=>ag _ m) _ (E.o.below ((ak _ _).drew))).mono ?_;rintro e W4 ⟨rfl,l⟩;have C:=ae ((E.o.below ((ak _ _).drew)).below l);clear l;refine a.out _ _ (λw'=>At w0 p ((d,aT (X.aH ks (k+1)))::fs) (X.opened s chs now) w') (λ_ h=>h) C.o ?_;clear a K;refine az (λK a=> ?_);go_simp;refine(a3.o _ _ (λx m=>ag _ m) _ C.o).mono ?_;rintro e W5 ⟨rfl,l⟩;have Z:=ae (C.o.below l);clear l;refine a.out _ _ (λw'=>At w0 p ((d,aT (X.aH ks (k+1)))::fs) (X.opened s chs now) w') (λ_ h=>h) Z.o ?_;clear a K;repeat
          first
           |refine aA (v:= ?_) (λw' y=> ?_) (λK a=> ?_)
            rotate_left
            ·obtain⟨r1,r2,n,q,u⟩:=N.o ((d,aT (X.aH ks (k+1)))::fs) (X.opened s chs now) (λx m=>ag _ m) w' y;have F:=aj w' pf r1;have G:=aj w' Bf r2;have H:=aj w' Bp n;have I:=aj w' Bb q;have M:=aj w' Bo u;clear r1 r2 n q u;have b4:=aj w' d (y.get (af:(d,aT (X.aH ks (k+1)))∈((d,aT (X.aH ks (k+1)))::fs)));clear y;go_simp;try with_reducible rfl
            go_simp;refine a _ ?_;clear a K
           |refine aF (λK a=> ?_)
            go_simp;refine a _ ?_;clear a K
         show wpList _ _ _ _ _ _;clear E C hq;have HJ:=ae (UO HI.o HX.o b1.o d4.o O.o j5.o (Z.o.less (λx m=>ag _ m)));clear Z HI b3 a3;go_wp2;go_roundw
         case rel=>exact⟨k+1,z.o,by first|exact cD k a6.o|exact bV k,_,_,HJ⟩
         case measure=>first|exact bZ z.o a6.o|exact bN z.o
       |false=>
        as_aux_lemma=>
         rw[Ej]at hq;obtain⟨⟨L,j0,g7⟩,c3,c6⟩:=UR HI.o HX.o b1.o d4.o O.o Ej;have f3:=ae (λw1 (hh:At w0 p ((d,aT (X.aH ks (k+1)))::fs) (X.opened s chs now) w1)=>xg hh ((λx m=>ag _ m) _ j3.o) ((λx m=>ag _ m) _ j4.o) HO.o HX.o.ks HX.o.nm (k+1) O.o o (some ⟨bo,oo,none⟩) co (f5.o.more (λx m=>ag _ m)) h7.o L j0 g7 (by have:=HI.o.len;have:=a7.o;have:=z.o;omega) (by have:=HI.o.tx.len;have:=a7.o;have:=z.o;omega));generalize b8:(⟨(X.val ks (k+1) o.b).toArray⟩:ByteArray)=j1 at b3 hq;have h9:=ae hq;have a1:=ae (λW=>dM nm size (some ⟨g,0,none⟩) ks.length c (k+1) (ct+1) (X.val ks (k+1) b) (by have:=a7.o;omega) (Vi HX.o.ct).2 (by have:=HX.o.nm;omega) (by have h1:=X.bc b1.o O.o;have h2:=HX.o.lens O.o;omega) W);have V:=ae (λw1 (hh:At w0 p ((d,aT (X.aH ks (k+1)))::fs) (X.opened s (chs++[⟨X.aN nm ks (k+1) o,[],true⟩]) (J.del now (X.aN nm ks (k+1) o))) w1) v (hv:Sl w1 bE v (X.val ks 0 b))=>wL hh rfl (X.cy nm (k+1) (X.val ks (k+1) b) (ct+1)) (X.val ks 0 b) v (lX _ _ _ _) (by have h1:=X.cZ nm (k+1) (X.val ks (k+1) b) (ct+1);have h2:=X.bc b1.o O.o;have h3:=HX.o.lens O.o;have h4:=HX.o.nm;omega) (by have:=f7.o;omega) hv 0 c3);have a8:=ae (c6);have g2:wrap64 ((k:Int)+1)=(k:Int)+1:=nY (by have:=z.o;have:=a7.o;omega);have i5:IntKind.i64.wrap ((k:Int)+1)=(k:Int)+1:=rM (by have:=z.o;have:=a7.o;omega);generalize d0:(⟨(X.val ks (k+1) b).toArray⟩:ByteArray)=ve at a3 a1 hq;generalize e5:(⟨(X.cy nm (k+1) (X.val ks (k+1) b) (ct+1)).toArray⟩:ByteArray)=ee at a1 V;clear d0 e5;clear c3 c6 g7 b8 h9 Ej;go_wp2_with fail;refine aR (.rd 0 (.rd 1 (.rd 2 (.rd 3 (.rd 4 (.rd 6 (.rd 7 (.wr 5 (.wr 8 (.rd 9 (.rd 10 .fin))))))))))) (λw'=>At w0 p ((d,aT (X.aH ks (k+1)))::fs) (X.opened s chs now) w') (E.o.below ((ak _ _).drew)) ?_;repeat
          first
           |refine aA (v:= ?_) (λw' y=> ?_) (λK a=> ?_)
            rotate_left
            ·obtain⟨r1,r2,n,q,u⟩:=N.o ((d,aT (X.aH ks (k+1)))::fs) (X.opened s chs now) (λx m=>ag _ m) w' y;have F:=aj w' pf r1;have G:=aj w' Bf r2;have H:=aj w' Bp n;have I:=aj w' Bb q;have M:=aj w' Bo u;clear r1 r2 n q u;have b4:=aj w' d (y.get (af:(d,aT (X.aH ks (k+1)))∈((d,aT (X.aH ks (k+1)))::fs)));clear y;go_simp;try with_reducible rfl
            go_simp;refine a _ ?_;clear a K
           |refine aF (λK a=> ?_)
            go_simp;refine a _ ?_;clear a K
         refine az (λK a=> ?_);go_simp;refine(b3.o _ _ (λx m=>ag _ m) _ (E.o.below ((ak _ _).drew))).mono ?_;rintro e W4 ⟨rfl,l⟩;have C:=ae ((E.o.below ((ak _ _).drew)).below l);clear l;refine a.out _ _ (λw'=>At w0 p ((d,aT (X.aH ks (k+1)))::fs) (X.opened s chs now) w') (λ_ h=>h) C.o ?_;clear a K;refine az (λK a=> ?_);go_simp;refine(a3.o _ _ (λx m=>ag _ m) _ C.o).mono ?_;rintro e W5 ⟨rfl,l⟩;have Z:=ae (C.o.below l);clear l;refine a.out _ _ (λw'=>At w0 p ((d,aT (X.aH ks (k+1)))::fs) (X.opened s chs now) w') (λ_ h=>h) Z.o ?_;clear a K;repeat
          first
           |refine aA (v:= ?_) (λw' y=> ?_) (λK a=> ?_)
            rotate_left
            ·obtain⟨r1,r2,n,q,u⟩:=N.o ((d,aT (X.aH ks (k+1)))::fs) (X.opened s chs now) (λx m=>ag _ m) w' y;have F:=aj w' pf r1;have G:=aj w' Bf r2;have H:=aj w' Bp n;have I:=aj w' Bb q;have M:=aj w' Bo u;clear r1 r2 n q u;have b4:=aj w' d (y.get (af:(d,aT (X.aH ks (k+1)))∈((d,aT (X.aH ks (k+1)))::fs)));clear y;go_simp;try with_reducible rfl
            go_simp;refine a _ ?_;clear a K
           |refine aF (λK a=> ?_)
            go_simp;refine a _ ?_;clear a K
         show wpList _ _ _ _ _ _;clear E C hq;obtain⟨r1,r2,n,q,u⟩:=N.o ((d,aT (X.aH ks (k+1)))::fs) (X.opened s chs now) (λx m=>ag _ m) W5 Z.o;have F:=aj W5 pf r1;have G:=aj W5 Bf r2;have H:=aj W5 Bp n;have I:=aj W5 Bb q;have M:=aj W5 Bo u;clear r1 r2 n q u;go_wp2_with fail;clear F G H I M;refine(f3.o _ Z.o).mono ?_;rintro e W7 ⟨⟨_,rfl⟩,ha⟩;have d3:=ae ha;clear ha f3 Z HI b3;go_wp2_with fail;refine aJ 17 (.rd 0 (.rd 1 (.rd 2 (.rd 3 (.rd 4 (.rd 5 (.rd 6 (.rd 7 (.rd 8 (.rd 9 (.rd 10 (.rd 11 (.rd 13 (.rd 15 (.two 12 (.two 14 (.wr 16 .fin) 16 (.wr 14 .fin)) 16 (.wr 12 (.wr 14 .fin))))))))))))))))) (λw'=>At w0 p ((d,aT (X.aH ks (k+1)))::fs) (X.opened s (chs++[⟨X.aN nm ks (k+1) o,[],true⟩]) (J.del now (X.aN nm ks (k+1) o))) w') (d3.o.below ((ak _ _).drew)) ?_;repeat
          refine aA (v:= ?_) (λw' y=> ?_) (λK a=> ?_);rotate_left
          ·obtain⟨r1,r2,n,q,u⟩:=N.o ((d,aT (X.aH ks (k+1)))::fs) (X.opened s (chs++[⟨X.aN nm ks (k+1) o,[],true⟩]) (J.del now (X.aN nm ks (k+1) o))) (λx m=>ag _ m) w' y;have F:=aj w' pf r1;have G:=aj w' Bf r2;have H:=aj w' Bp n;have I:=aj w' Bb q;have M:=aj w' Bo u;clear r1 r2 n q u;have b4:=aj w' d (y.get (af:(d,aT (X.aH ks (k+1)))∈((d,aT (X.aH ks (k+1)))::fs)));clear y;go_simp;try with_reducible rfl
          go_simp;refine a _ ?_;clear a K
         refine dX (by rfl) (by rfl) (λK a=> ?_) (λK a=> ?_)
         ·go_simp;refine(a3.o _ _ (λx m=>ag _ m) _ (d3.o.below ((ak _ _).drew))).mono ?_;rintro e V1 ⟨rfl,l⟩;have T:=ae (((d3.o.below ((ak _ _).drew)):At w0 p ((d,aT (X.aH ks (k+1)))::fs) (X.opened s (chs++[⟨X.aN nm ks (k+1) o,[],true⟩]) (J.del now (X.aN nm ks (k+1) o))) _).below l);clear l;refine a.out _ _ (λw'=>At w0 p ((d,aT (X.aH ks (k+1)))::fs) (X.opened s (chs++[⟨X.aN nm ks (k+1) o,[],true⟩]) (J.del now (X.aN nm ks (k+1) o))) w') (λ_ h=>h) T.o ?_;clear a K;refine dX (by rfl) (by rfl) (λK a=> ?_) (λK a=> ?_);have Q:=trivial
          all_goals
           first
            |have Q:=Q
             skip
            |obtain⟨cc,V2,a5,D,l⟩:=gA V1 (X.val ks 0 b) pv b5.o
           go_simp;first
            |have Q:=Q
             refine(a1.o _).mono ?_;rintro e V2 ⟨rfl,l⟩
            |skip
           have a0:=ae ((T.o:At w0 p ((d,aT (X.aH ks (k+1)))::fs) (X.opened s (chs++[⟨X.aN nm ks (k+1) o,[],true⟩]) (J.del now (X.aN nm ks (k+1) o))) _).below l);first
            |have Q:=Q
             clear l
            |have a2:=ae D
             clear l D a5
           refine a.out _ _ (λw'=>At w0 p ((d,aT (X.aH ks (k+1)))::fs) (X.opened s (chs++[⟨X.aN nm ks (k+1) o,[],true⟩]) (J.del now (X.aN nm ks (k+1) o))) w') (λ_ h=>h) a0.o ?_;clear a K;refine az (λK a=> ?_);first
            |have Q:=Q
             obtain⟨cc,V3,a5,D,l⟩:=gA V2 (X.val ks 0 b) pv b5.o
             skip
            |skip
           go_simp;first
            |have Q:=Q
             skip
            |refine(a1.o _).mono ?_
             rintro e V3 ⟨rfl,l⟩
           have U:=ae ((a0.o:At w0 p ((d,aT (X.aH ks (k+1)))::fs) (X.opened s (chs++[⟨X.aN nm ks (k+1) o,[],true⟩]) (J.del now (X.aN nm ks (k+1) o))) _).below l);first
            |have Q:=Q
             have a2:=ae D;clear l D a5
            |have b2:=ae ((a2.o).step (Step.aC l))
             clear l
           refine a.out _ _ (λw'=>At w0 p ((d,aT (X.aH ks (k+1)))::fs) (X.opened s (chs++[⟨X.aN nm ks (k+1) o,[],true⟩]) (J.del now (X.aN nm ks (k+1) o))) w') (λ_ h=>h) U.o ?_;clear a K;show wpList _ _ _ _ _ _;go_wp2_with fail;first
            |have Q:=Q
             refine(V.o _ U.o _ a2.o).mono ?_
            |refine(V.o _ U.o _ b2.o).mono ?_
           rintro e W9 ⟨rfl,ha⟩;have HJ:=ae (a8.o _ (ha.less (λx m=>ag _ m)));clear ha V a8;go_wp2;go_roundw
           case rel=>exact⟨k+1,z.o,by first|exact cD k a6.o|exact bV k,_,_,HJ⟩
           case measure=>first|exact bZ z.o a6.o|exact bN z.o
         ·obtain⟨cc,V1,a5,D,l⟩:=gA W7.drew (X.val ks 0 b) pv b5.o;go_simp;have T:=ae (((d3.o.below ((ak _ _).drew)):At w0 p ((d,aT (X.aH ks (k+1)))::fs) (X.opened s (chs++[⟨X.aN nm ks (k+1) o,[],true⟩]) (J.del now (X.aN nm ks (k+1) o))) _).below l);have a2:=ae D;clear l D a5;refine a.out _ _ (λw'=>At w0 p ((d,aT (X.aH ks (k+1)))::fs) (X.opened s (chs++[⟨X.aN nm ks (k+1) o,[],true⟩]) (J.del now (X.aN nm ks (k+1) o))) w') (λ_ h=>h) T.o ?_;clear a K;refine az (λK a=> ?_);go_simp;refine(a3.o _ _ (λx m=>ag _ m) _ T.o).mono ?_;rintro e V2 ⟨rfl,l⟩;have a0:=ae ((T.o:At w0 p ((d,aT (X.aH ks (k+1)))::fs) (X.opened s (chs++[⟨X.aN nm ks (k+1) o,[],true⟩]) (J.del now (X.aN nm ks (k+1) o))) _).below l);have e0:=ae ((a2.o).step (Step.aC l));clear l;refine a.out _ _ (λw'=>At w0 p ((d,aT (X.aH ks (k+1)))::fs) (X.opened s (chs++[⟨X.aN nm ks (k+1) o,[],true⟩]) (J.del now (X.aN nm ks (k+1) o))) w') (λ_ h=>h) a0.o ?_;clear a K;refine az (λK a=> ?_);go_simp;refine(a1.o _).mono ?_;rintro e V3 ⟨rfl,l⟩;have U:=ae ((a0.o:At w0 p ((d,aT (X.aH ks (k+1)))::fs) (X.opened s (chs++[⟨X.aN nm ks (k+1) o,[],true⟩]) (J.del now (X.aN nm ks (k+1) o))) _).below l);have b2:=ae ((e0.o).step (Step.aC l));clear l;refine a.out _ _ (λw'=>At w0 p ((d,aT (X.aH ks (k+1)))::fs) (X.opened s (chs++[⟨X.aN nm ks (k+1) o,[],true⟩]) (J.del now (X.aN nm ks (k+1) o))) w') (λ_ h=>h) U.o ?_;clear a K;show wpList _ _ _ _ _ _;go_wp2_with fail;refine(V.o _ U.o _ b2.o).mono ?_;rintro e W9 ⟨rfl,ha⟩;have HJ:=ae (a8.o _ (ha.less (λx m=>ag _ m)));clear ha V a8;go_wp2;go_roundw
          case rel=>exact⟨k+1,z.o,by first|exact cD k a6.o|exact bV k,_,_,HJ⟩
          case measure=>first|exact bZ z.o a6.o|exact bN z.o
   ·obtain rfl:k=ks.length - 1:=(by omega);have HE:=ae HI.o;clear HI;go_wp2;go_end0;exact⟨⟨_,rfl⟩,_,_,HE.o⟩
abbrev Mp:= @Yq.1
abbrev Mq:= @Yq.2
end
end Go.Proofs.YtipljcmmokaokaaGreat
