import Derived.Test.YtipljcmmokaokaaGreatQM18
set_option linter.unusedVariables false
set_option linter.unusedSimpArgs false
set_option maxHeartbeats 4000000
namespace Go.Proofs.YtipljcmmokaokaaGreat
open Go.RowKit Go.Lib Go.Maps Go.WideMaps Go.Sort
set_option maxRecDepth 100000
theorem fo (j:Nat) (h:j≤1000000):Value.int .i64 (wrap64 ((j:Int)+1))= .int .i64 ((j+1:Nat):Int):=by rw[PG j h]
theorem dT {j n:Nat} (h:j<n) (hj:j≤1000000):n - (intOf (Value.int .i64 (wrap64 ((j:Int)+1)))).toNat<n - (intOf (Value.int .i64 (j:Int))).toNat:=by
 rw[PG j hj];simp only[intOf];omega
theorem dr {j n:Nat} (h:j<n):n - (intOf (Value.int .i64 ((j:Int)+1))).toNat<n - (intOf (Value.int .i64 (j:Int))).toNat:=by
 simp only[intOf];omega
theorem rR (x k:J.B):Op.bytesLess (⟨x.toArray⟩:ByteArray).toList (⟨k.toArray⟩:ByteArray).toList=decide (x<k):=by
 rw[ByteArray.toList_eq,ByteArray.toList_eq,bytesLess_eq]
def Mf (V W:ByteArray):Prop:=(Op.bytesLess V.toList W.toList=true∧(V.toList==W.toList)=false∧Op.bytesLess W.toList V.toList=false∧(W.toList==V.toList)=false)∨(Op.bytesLess V.toList W.toList=false∧(V.toList==W.toList)=true∧Op.bytesLess W.toList V.toList=false∧(W.toList==V.toList)=true)∨(Op.bytesLess V.toList W.toList=false∧(V.toList==W.toList)=false∧Op.bytesLess W.toList V.toList=true∧(W.toList==V.toList)=false)
theorem Bg (x y:J.B):Mf ⟨x.toArray⟩ ⟨y.toArray⟩:=by
 unfold Mf;rw[rR,rR,df,df];by_cases h1:x<y
 ·have h2:¬x=y:=λe=>by rw[e]at h1;exact List.lt_irrefl _ h1
  have h3:¬y<x:=List.lt_asymm h1;exact .inl ⟨decide_eq_true h1,decide_eq_false h2,decide_eq_false h3,decide_eq_false (λe=>h2 e.symm)⟩
 ·rcases List.le_iff_lt_or_eq.1 (List.not_lt.1 h1)with h2|h2
  ·have h3:¬x=y:=λe=>by rw[e]at h2;exact List.lt_irrefl _ h2
   exact .inr (.inr ⟨decide_eq_false h1,decide_eq_false h3,decide_eq_true h2,decide_eq_false (λe=>h3 e.symm)⟩)
  ·subst h2;exact .inr (.inl ⟨decide_eq_false h1,decide_eq_true rfl,decide_eq_false h1,decide_eq_true rfl⟩)
theorem PN (ks:List X.Ky) (k:Nat) (v:J.B) (t:Nat) (same:Bool) (r:X.Row):X.sR ks k v t same r=(decide (v<X.val ks k r.b)||(decide (X.val ks k r.b=v)&&(decide (t<r.t k)||(decide (r.t k=t)&&same)))):=by
 unfold X.sR;rw[show decide (v=X.val ks k r.b)=decide (X.val ks k r.b=v)from decide_eq_decide.2 eq_comm]
abbrev lz (m:X.M):X.M:={m with lost:=true,read:=false}
theorem kq {x:J.B} (h:x≠[]):¬(⟨x.toArray⟩:ByteArray).toList=[]∧(⟨x.toArray⟩:ByteArray).toList.isEmpty=false:=by
 rw[ByteArray.toList_eq];exact⟨h,by cases x with|nil=>exact absurd rfl h|cons _ _=>rfl⟩
theorem rS (wr:J.B) (l:List Nat) (md:Nat) (h:wr≠[]):X.bM wr l md≠[]:=by
 unfold X.bM;split
 ·decide
 ·split
  ·decide
  ·exact h
theorem ki {p:X.Row→Bool} {ls:List HP} {j:Nat} (hj:j<ls.length) (hno:∀t (ht:t<ls.length),t<j→p ls[t].1=false) (hy:p ls[j].1=true):(ls.map (·.1)).find? p=some ls[j].1:=by
 have e:ls=ls.take j++ls[j]::ls.drop (j+1):=by rw[←List.drop_eq_getElem_cons hj,List.take_append_drop]
 conv=>lhs;rw[e]
 rw[List.map_append,List.find?_append,List.find?_eq_none.2 (λx hx=>by
  obtain⟨z,hz,rfl⟩:=List.mem_map.1 hx;obtain⟨t,ht,rfl⟩:=List.getElem_of_mem hz;rw[List.length_take]at ht;rw[List.getElem_take,hno t (by omega) (by omega)];decide),Option.none_or,List.map_cons,List.find?_cons,hy]
theorem mU {p:X.Row→Bool} {ls:List HP} (hno:∀t (ht:t<ls.length),p ls[t].1=false):(ls.map (·.1)).find? p=none:=
 List.find?_eq_none.2 (λx hx=>by
  obtain⟨z,hz,rfl⟩:=List.mem_map.1 hx;obtain⟨t,ht,rfl⟩:=List.getElem_of_mem hz;rw[hno t ht];decide)
section
variable {w w' : World} {q g c : Nat} {M : Nat → Prop} {m : X.M} {v : Value} {l : List HP}
theorem ft.bQ (h:ft w q g c M m v l) (k:Nat):(dg m.ks k l).map (·.1)=X.bQ m.ks k m.rows:=by rw[uN,h.eq]
theorem Mg (h:ft w q g c M m v l) {size ct:Nat} (hr:X.aQ m.ks size ct m.rows) (hk:m.key<m.ks.length) {i:Nat} (hi:i<(dg m.ks m.key l).length):
  tkS m (dg m.ks m.key l) i (dg m.ks m.key l)[i].1.b=m.qd (dg m.ks m.key l)[i].1:=by
 have hs:=h.bQ m.key;have hi':i<(X.bQ m.ks m.key m.rows).length:=by rw[←hs,List.length_map];exact hi
 have vE:(X.bQ m.ks m.key m.rows)[i]=(dg m.ks m.key l)[i].1:=by
  have:=List.getElem_map (f:=(·.1)) (l:=dg m.ks m.key l) (i:=i) (h:=by rw[List.length_map];exact hi);rw[←this]
  congr 1
  exact hs.symm
 have hm:=X.Hq hr hk hi';rw[vE]at hm;have e1:m.more (dg m.ks m.key l)[i].1=moreB m.ks m.rows m.key (dg m.ks m.key l)[i].1:=rfl;have e2:TW m.ks m.key (dg m.ks m.key l) i (dg m.ks m.key l)[i].1.b=m.more (dg m.ks m.key l)[i].1:=by
  rw[e1,hm,←hs,List.getElem?_map];unfold TW;cases(dg m.ks m.key l)[i+1]? <;>rfl
 unfold tkS X.M.qd;rw[e2]
theorem cj.bQ (hf:cj m l) (k:Nat):cj m (dg m.ks k l):=hf.sub (λx hx=>qM l hx) (by rw[lW];exact aq _)
theorem cj.of (h:ft w q g c M m v l) {size ct:Nat} (hr:X.aQ m.ks m.size ct m.rows) (hk:X.eo m.ks m.size) (hl:m.rows.length≤1000000):cj m l:=by
 have hm:∀x∈l,x.1∈m.rows:=λx hx=>by rw[←h.eq];exact List.mem_map_of_mem hx
 exact⟨λx hx=>hr.fit _ (hm x hx),λx hx=>hr.tl _ (hm x hx),hk,by rw[h.len];exact hl⟩
theorem ei (hr:w.heap[q]? =some (gF m g c v)) (di:J.B) (a b d:Nat) (ls:List Nat) (hl:∀x,x∈ls↔x=a∨x=b∨x=d) (hw:di≠X.good) (hc:X.bM di ls m.mode=X.good):
  Calls Tryz.prog 59 #[.pointer (some ⟨q,0,none⟩), .string ⟨di.toArray⟩, .int .u8 (a:Nat), .int .u8 (b:Nat), .int .u8 (d:Nat)] w λe w'=>e= .returned (.string ⟨#[]⟩)∧w=w':=by
 have:=uM hr di a b d;rw[Py hl hw hc]at this;exact this
theorem ik (hr:w.heap[q]? =some (gF m g c v)) (di:J.B) (a b d:Nat) (ls:List Nat) (hl:∀x,x∈ls↔x=a∨x=b∨x=d) (hc:X.bM di ls m.mode≠X.good):
  Calls Tryz.prog 59 #[.pointer (some ⟨q,0,none⟩), .string ⟨di.toArray⟩, .int .u8 (a:Nat), .int .u8 (b:Nat), .int .u8 (d:Nat)] w λe w'=>e= .returned (.string ⟨(X.bM di ls m.mode).toArray⟩)∧w=w':=by
 have:=uM hr di a b d;rw[Pz hl hc]at this;exact this
def HR (w:World) (q g c:Nat) (M:Nat→Prop) (m':X.M) (v':Value) (l':List HP) (w':World):Prop:=w.grownBy w' (some q)∧ft w' q g c M m' v' l'
theorem fe (h:ft w q g c M m v l):HR w q g c M m v l w:=⟨World.grownBy.refl w _,h⟩
theorem qQ (h:ft w q g c M m v l) (hb:Below w.heap.size w w'):HR w q g c M m v l w':=⟨⟨hb.os,hb.tape,hb.output,hb.size,λk hk _=>hb.block k hk⟩,h.below hb⟩
theorem HR.below {w1 w2:World} {m':X.M} {v':Value} {l':List HP} (h:HR w q g c M m' v' l' w1) (hb:Below w1.heap.size w1 w2):HR w q g c M m' v' l' w2:=
 ⟨⟨hb.os.trans h.1.os,hb.tape.trans h.1.tape,hb.output.trans h.1.output,aw h.1.size hb.size,λk hk hn=>(hb.block k (av hk h.1.size)).trans (h.1.block k hk hn)⟩,h.2.below hb⟩
theorem kj {w1 w2:World} {r:Option Nat} (h1:w.grownBy w1 r) (h2:w1.grownBy w2 r):w.grownBy w2 r:=
 ⟨h2.os.trans h1.os,h2.tape.trans h1.tape,h2.output.trans h1.output,aw h1.size h2.size,λk hk hn=>(h2.block k (av hk h1.size) hn).trans (h1.block k hk hn)⟩
theorem HR.trans {w1 w2:World} {m1 m2:X.M} {v1 v2:Value} {l1 l2:List HP} (h1:HR w q g c M m1 v1 l1 w1) (h2:HR w1 q g c M m2 v2 l2 w2):HR w q g c M m2 v2 l2 w2:=⟨kj h1.1 h2.1,h2.2⟩
theorem ft.Mh {m':X.M} {v':Value} {l':List HP} (h:ft w q g c M m v l) (hg:w.grownBy w' (some q)) (hr:w'.heap[q]? =some (gF m' g c v')) (e1:m'.ks=m.ks) (hl:mP w' M v' l') (e2:l'.map (·.1)=m'.rows):ft w' q g c M m' v' l':=by
 refine⟨hr, ?_,h.ng,hl,h.nq,e2⟩;rw[e1];exact⟨av h.ks.1 hg.size,λj u hu=>(World.cell?_of_block (hg.block g h.ks.1 (λe=>h.ng (by injection e)))).trans (h.ks.2 j u hu)⟩
theorem HR.set {m1 m':X.M} {w1:World} (h:HR w q g c M m1 v l w1) (j:Nat) (x:Value) (hr:(w1.setCell ⟨q,j,none⟩ x).heap[q]? =some (gF m' g c v)) (e1:m'.ks=m1.ks) (e2:m'.rows=m1.rows):HR w q g c M m' v l (w1.setCell ⟨q,j,none⟩ x):=
 ⟨aA h.1 j x,h.2.turn (aA (World.grownBy.refl w1 (some q)) j x) hr e1 e2⟩
end
namespace X
section
variable {m : M} {b : B} {old : Option Row}
def OI (m:M) (b:B) (old:Option Row) (i:Nat):Nat:=if i=0 then 0 else match old with
 |some o=>if val m.ks i o.b=val m.ks i b then o.t i else m.time+1
 |none=>m.time+1
theorem Hz:m.times b old=(List.range m.ks.length).map (OI m b old):=by
 unfold M.times;refine List.map_congr_left (λi _=> ?_);unfold OI;cases old<;>rfl
def yi (m:M) (b:B) (old:Option Row) (k:Nat):List Nat:=(List.range m.ks.length).map λi=>if i<k then OI m b old i else 0
theorem km (k:Nat):(yi m b old k).length=m.ks.length:=by simp[yi]
theorem PO:yi m b old 1=List.replicate m.ks.length 0:=by
 apply List.ext_getElem
 ·simp[yi]
 ·intro i h1 h2;simp only[yi,List.getElem_map,List.getElem_range,List.getElem_replicate];split
  ·rename_i h
   unfold OI;rw[if_pos (by omega)]
  ·rfl
theorem FE (k:Nat):(yi m b old k).set k (OI m b old k)=yi m b old (k+1):=by
 apply List.ext_getElem
 ·simp[yi]
 ·intro i h1 h2;rw[List.getElem_set];simp only[yi,List.getElem_map,List.getElem_range];by_cases e:k=i
  ·subst e;rw[if_pos rfl,if_pos (by omega)]
  ·rw[if_neg e];by_cases h:i<k
   ·rw[if_pos h,if_pos (by omega)]
   ·rw[if_neg h,if_neg (by omega)]
theorem FH:yi m b old m.ks.length=m.times b old:=by
 rw[Hz];apply List.ext_getElem
 ·simp[yi]
 ·intro i h1 h2;simp only[yi,List.getElem_map,List.getElem_range];rw[if_pos (by simpa [yi] using h1)]
def Sq (m:M) (b:B) (old:Option Row) (k:Nat):B:=if(List.range' 1 (k - 1)).any (λi=>m.cI i b old)then [48,50]else [48,48]
def Xq (m:M) (b:B) (old:Option Row) (k:Nat):Prop:=∀i,1≤i→i<k→m.cI i b old=true→(aF m.ks i).dup=true
theorem PQ:Xq m b old 1:=λi h1 h2=>by omega
theorem Mi {k:Nat} (h:1≤k):Sq m b old (k+1)=if m.cI k b old=true then [48,50]else Sq m b old k:=by
 unfold Sq;rw[show k+1 - 1=(k - 1)+1 by omega,List.range'_concat,List.any_append,List.any_cons,List.any_nil,Bool.or_false,show 1+1*(k - 1)=k by omega];cases m.cI k b old with
 |true=>rw[Bool.or_true];rfl
 |false=>rw[Bool.or_false];rfl
theorem uU {k:Nat} (h:Xq m b old k) (hk:m.cI k b old=true→(aF m.ks k).dup=true):Xq m b old (k+1):=λi h1 h2 hc=>by
 by_cases e:i=k
 ·subst e;exact hk hc
 ·exact h i h1 (by omega) hc
theorem Ia (hn:Xq m b old m.ks.length):m.cW b old=Sq m b old m.ks.length:=by
 unfold M.cW;rw[if_neg]
 ·rfl
 ·intro hh;obtain⟨i,hi,h2⟩:=List.any_eq_true.1 hh;rw[Bool.and_eq_true]at h2;rw[List.mem_range'_1]at hi;rw[hn i hi.1 (by omega) h2.1]at h2;cases h2.2
theorem Ud (k:Nat):Sq m b old k≠[50,50]:=by
 unfold Sq;split<;>decide
theorem xj {k:Nat} (h1:1≤k) (h2:k<m.ks.length) (hc:m.cI k b old=true) (hd:(aF m.ks k).dup=false):m.cW b old=[50,50]:=by
 unfold M.cW;rw[if_pos (List.any_eq_true.2 ⟨k,by rw[List.mem_range'_1];omega,by rw[hc,hd];rfl⟩)]
end
end X
def PR (m:X.M) (b:J.B) (k:Nat) (l:List HP) (i:Nat):Bool:=(l.take i).any λx=>decide (X.val m.ks k x.1.b=X.val m.ks k b)
theorem Mj {m:X.M} {b:J.B} {k:Nat} {l:List HP} {i:Nat} (h:i<l.length):PR m b k l (i+1)=(PR m b k l i||decide (X.val m.ks k l[i].1.b=X.val m.ks k b)):=by
 unfold PR;rw[List.take_succ_eq_append_getElem h,List.any_append,List.any_cons,List.any_nil,Bool.or_false]
theorem PS {m:X.M} {b:J.B} {k:Nat} {l:List HP} (he:l.map (·.1)=m.rows) {old:Option X.Row} (hk:X.keeps m.ks k b old=false):PR m b k l l.length=m.cI k b old:=by
 unfold PR X.M.cI;rw[hk,List.take_length,←he,List.any_map];rfl
def ptQ (st:J.B) (f:Bool):J.B:=if f then [48,50]else st
abbrev PT (ts:List Nat):Obj:= .cells (ts.map pT).toArray 3 (0,0)
theorem Tryz.Xr:(Tryz.prog.info? 3).map (λi=>(i.zero,i.size,i.bytes))=some (some (.int .i64 0),1,8):=by kernel_rfl
theorem PU (n:Nat):madeCells #[(.int .i64 0:Value)] n=((List.replicate n 0).map pT).toArray:=by
 unfold madeCells;apply Array.ext
 ·simp
 ·intro i h1 h2;simp[Nat.mod_one]
theorem Ue (n:Nat) (hn:n≤100000) (W:World):(Instr.makeSlice 50 (.int .i64 (n:Nat)) (.int .i64 (n:Nat))).run Tryz.prog W= .ok (.slice (some ⟨W.heap.size,0,none⟩) n n) (W.alloc (PT (List.replicate n 0))):=by
 obtain⟨i0,hi,hz0,hz1,hz2⟩:=info_parts Tryz.Xr;have h:=run_makeSlice (P:=Tryz.prog) W 50 3 i0 _ Tryz.underlying50 hi hz0 .i64 .i64 n n (by omega) (Int.le_refl _) (by rw[hz1];omega) (by rw[hz2];omega) (by omega);rw[hz1]at h;simp only[Int.toNat_natCast,Nat.mul_one]at h;have e:(Value.int .i64 0).cells=#[(.int .i64 0:Value)]:=rfl;rw[e,PU]at h;exact h
theorem tD {w:World} {tb:Nat} {ts:List Nat} (h:w.heap[tb]? =some (PT ts)) {k:Nat} (hk:k<ts.length):w.cell? ⟨tb,k,none⟩=some (pT ts[k]):=by
 rw[cell_of_row w tb k _ _ _ h];simp[hk]
theorem Uf {w:World} {tb:Nat} {ts:List Nat} (h:w.heap[tb]? =some (PT ts)) (k x:Nat):(w.setCell ⟨tb,k,none⟩ (pT x)).heap[tb]? =some (PT (ts.set k x)):=by
 rw[aB h];simp only[PT,List.map_set];rw[List.setIfInBounds_toArray]
structure JD (w:World) (tb:Nat) (ts:List Nat) (W:World):Prop where
 bel:Below w.heap.size w W
 tm:W.heap[tb]? =some (PT ts)
theorem JD.below {w W W':World} {tb:Nat} {ts:List Nat} (h:JD w tb ts W) (hb:Below W.heap.size W W'):JD w tb ts W':=
 ⟨h.bel.trans (hb.mono h.bel.size),(hb.block tb (ai h.tm).1).trans h.tm⟩
theorem JD.set {w W:World} {tb:Nat} {ts:List Nat} (h:JD w tb ts W) (ht:w.heap.size≤tb) (k x:Nat):JD w tb (ts.set k x) (W.setCell ⟨tb,k,none⟩ (pT x)):=
 ⟨h.bel.setCell ht _,Uf h.tm k x⟩
theorem DW {l:List HP} {i j:Nat} (h:i<l.length):(l.take (i+1)).eraseIdx j=if i=j then(l.take i).eraseIdx j else(l.take i).eraseIdx j++[l[i]]:=by
 rw[List.take_succ_eq_append_getElem h];have hl:(l.take i).length=i:=by rw[List.length_take];omega
 by_cases e:i=j
 ·subst e;rw[if_pos rfl,List.eraseIdx_append_of_length_le (by omega),hl,Nat.sub_self,List.eraseIdx_cons_zero,List.append_nil,List.eraseIdx_of_length_le (by omega)]
 ·rw[if_neg e];by_cases hj:j<i
  ·rw[List.eraseIdx_append_of_lt_length (by omega)]
  ·rw[List.eraseIdx_of_length_le (l:=l.take i) (by omega),List.eraseIdx_of_length_le (by rw[List.length_append,hl,List.length_singleton];omega)]
theorem rT {α β:Type} (f:α→β):∀(l:List α) (j:Nat),(l.map f).eraseIdx j=(l.eraseIdx j).map f
 |[],_=>rfl
 |_::_,0=>rfl
 |a::t,j+1=>by rw[List.map_cons,List.eraseIdx_cons_succ,List.eraseIdx_cons_succ,List.map_cons,rT f t j]
def PW (m:X.M) (b:J.B) (l:List HP) (j:Nat) (old:Option X.Row):X.M:={m with rows:=(l.eraseIdx j).map (·.1)++[⟨b,m.times b old⟩],time:=m.time+1}
theorem iU {l:List X.Row} {ks:List X.Ky} {p:J.B} (hp:l.Pairwise λx y=>X.val ks 0 x.b≠X.val ks 0 y.b) {j:Nat} (hj:j<l.length) (e:X.val ks 0 l[j].b=p):l.filter (λr=>decide (X.val ks 0 r.b≠p))=l.eraseIdx j:=by
 induction l generalizing j with
 |nil=>simp at hj
 |cons a t ih=>
  obtain⟨h1,h2⟩:=List.pairwise_cons.1 hp;cases j with
  |zero=>
   have e:X.val ks 0 a.b=p:=e;rw[List.filter_cons_of_neg (by simp[e]),List.eraseIdx_cons_zero];refine List.filter_eq_self.2 (λx hx=>decide_eq_true (λhh=>h1 x hx (by rw[e,hh])))
  |succ j=>
   have hj:j<t.length:=(by simpa using hj);have e:X.val ks 0 t[j].b=p:=e;have hne:X.val ks 0 a.b≠p:=λhh=>h1 t[j] (List.getElem_mem hj) (by rw[e,hh]);rw[List.filter_cons_of_pos (by simpa using hne),ih h2 hj e,List.eraseIdx_cons_succ]
theorem Mk {m:X.M} {b:J.B} {l:List HP} (he:l.map (·.1)=m.rows) (hn:∀x∈l,X.val m.ks 0 x.1.b≠X.val m.ks 0 b):PW m b l l.length none=m.put b none:=by
 unfold PW X.M.put;rw[List.eraseIdx_of_length_le (Nat.le_refl _),he];have:m.rows.filter (λr=>decide (X.val m.ks 0 r.b≠X.val m.ks 0 b))=m.rows:=List.filter_eq_self.2 (λx hx=>by
  rw[←he]at hx;obtain⟨y,hy,rfl⟩:=List.mem_map.1 hx;exact decide_eq_true (hn y hy))
 rw[this]
theorem Bh {m:X.M} {b:J.B} {l:List HP} (he:l.map (·.1)=m.rows) (hp:m.rows.Pairwise λx y=>X.val m.ks 0 x.b≠X.val m.ks 0 y.b) {j:Nat} (hj:j<l.length) (e:X.val m.ks 0 l[j].1.b=X.val m.ks 0 b):PW m b l j (some l[j].1)=m.put b (some l[j].1):=by
 unfold PW X.M.put;have hj':j<m.rows.length:=by rw[←he,List.length_map];exact hj
 have hg:m.rows[j]=l[j].1:=by
  have:=List.getElem_map (f:=(·.1)) (l:=l) (i:=j) (h:=by rw[List.length_map];exact hj);rw[←this]
  congr 1
  exact he.symm
 rw[iU hp hj' (by rw[hg];exact e),←he,rT]
def sO (n:Nat):Code→Option Code
 | .block id c=>if id=n then some (.block id c)else sO n c
 | .loop c=>sO n c
 | .seq a b=>match sO n a with
  |some c=>some c
  |none=>sO n b
 | .scope c=>sO n c
 | .cond _ a b=>match sO n a with
  |some c=>some c
  |none=>sO n b
 |_=>none
noncomputable def Ug:Code:=(Tryz.f62.body.bind (sO 2)).getD .skip
section
variable {w w' : World} {q g c : Nat} {M : Nat → Prop} {m : X.M} {v : Value} {l : List HP}
theorem Sr {W0:World} {Q:Exit→Act→World→Prop} (h:ft W0 q g c M m v l) (hf:cj m l) {k:Nat} (hk:k<m.ks.length) (b:J.B) (Fx:X.bj m.ks m.size b=true) (j:Nat) (z:Int) (hz:(z=(j:Nat)∧j<l.length)∨(z= -1∧j=l.length)) {old:Option X.Row} (hold:(l[j]?).map (·.1)=old) (ho:X.keeps m.ks k b (old)=false)
  (S:ByteArray) (hS:S=⟨b.toArray⟩) (st:J.B) (u3 u4 u5 u6 u8 gS gq iF gG gH u16 gu gw gI gJ gK gL u23 u24 ju u26 jv u28 jw jx jy u32 u33 jz jA jB jC jD jE jF iG iH iI u44 iJ iK iL iM iN iO iP iQ iR iT jG jH jI jJ jK kA kB kC kD u64 kE kF kG kH kI kJ kK lX nC nD nE nG ll ln lq lr lu lx ly lA lB lC lD lF lG lH kL tE tF tG tH tI tJ tK vY kP kQ kR kS kT kU kV kW kX kY kZ lZ jS jT iV iW iX iY iZ ja jb jc jd je jf jg jh ji jk jl yj yl ym yn yo yq yr yt u138 yu yv yw yx yy yz yA yB yC yD yE yF:Value)
  (h1:∀(d6 d10 d72 d73 d74 d75 d76 d77 d78 d79 d80 d81 d82 d83 d84 d85 d86 d87 d88 d89 d90 d91 d92 d93 d94 d95 d96 d97 d98 d99 d100 d101 d102 d103 d104 d105 d106 d107 d108 d109 d110 d111:Value) (W':World),Below W0.heap.size W0 W'→(m.cI k b (old)=true→(X.aF m.ks k).dup=true)→Q .normal (⟨#[.pointer (some ⟨q,0,none⟩), .string S, .int .i64 z,u3,u4,u5,d6, .string ⟨(ptQ st (m.cI k b old)).toArray⟩,u8, .int .i64 (k:Nat),d10,gS,gq,iF,gG,gH,u16,gu,gw,gI,gJ,gK,gL,u23,u24,ju,u26,jv,u28,jw,jx,jy,u32,u33,jz,jA,jB,jC,jD,jE,jF,iG,iH,iI,u44,iJ,iK,iL,iM,iN,iO,iP,iQ,iR,iT,jG,jH,jI,jJ,jK,kA,kB,kC,kD,u64,kE,kF,kG,kH,kI,kJ,kK,d72,d73,d74,d75,d76,d77,d78,d79,d80,d81,d82,d83,d84,d85,d86,d87,d88,d89,d90,d91,d92,d93,d94,d95,d96,d97,d98,d99,d100,d101,d102,d103,d104,d105,d106,d107,d108,d109,d110,d111,jS,jT,iV,iW,iX,iY,iZ,ja,jb,jc,jd,je,jf,jg,jh,ji,jk,jl,yj,yl,ym,yn,yo,yq,yr,yt,u138,yu,yv,yw,yx,yy,yz,yA,yB,yC,yD,yE,yF],[]⟩:Act) W')
  (h2:∀(d7 d10 d72 d73 d74 d75 d76 d77 d78 d79 d80 d81 d82 d83 d84 d85 d86 d87 d88 d89 d90 d91 d92 d93 d94 d95 d96 d97 d98 d99 d100 d101 d102 d103 d104 d105 d106 d107 d108 d109 d110 d111:Value) (W':World),Below W0.heap.size W0 W'→m.cI k b (old)=true→(X.aF m.ks k).dup=false→Q .ret (⟨#[.pointer (some ⟨q,0,none⟩), .string S, .int .i64 z,u3,u4,u5, .string ⟨#[50,50]⟩,d7,u8, .int .i64 (k:Nat),d10,gS,gq,iF,gG,gH,u16,gu,gw,gI,gJ,gK,gL,u23,u24,ju,u26,jv,u28,jw,jx,jy,u32,u33,jz,jA,jB,jC,jD,jE,jF,iG,iH,iI,u44,iJ,iK,iL,iM,iN,iO,iP,iQ,iR,iT,jG,jH,jI,jJ,jK,kA,kB,kC,kD,u64,kE,kF,kG,kH,kI,kJ,kK,d72,d73,d74,d75,d76,d77,d78,d79,d80,d81,d82,d83,d84,d85,d86,d87,d88,d89,d90,d91,d92,d93,d94,d95,d96,d97,d98,d99,d100,d101,d102,d103,d104,d105,d106,d107,d108,d109,d110,d111,jS,jT,iV,iW,iX,iY,iZ,ja,jb,jc,jd,je,jf,jg,jh,ji,jk,jl,yj,yl,ym,yn,yo,yq,yr,yt,u138,yu,yv,yw,yx,yy,yz,yA,yB,yC,yD,yE,yF],[]⟩:Act) W'):Code.wp Tryz.prog Ug Q (⟨#[.pointer (some ⟨q,0,none⟩), .string S, .int .i64 z,u3,u4,u5,u6, .string ⟨st.toArray⟩,u8, .int .i64 (k:Nat), .int .i64 0,gS,gq,iF,gG,gH,u16,gu,gw,gI,gJ,gK,gL,u23,u24,ju,u26,jv,u28,jw,jx,jy,u32,u33,jz,jA,jB,jC,jD,jE,jF,iG,iH,iI,u44,iJ,iK,iL,iM,iN,iO,iP,iQ,iR,iT,jG,jH,jI,jJ,jK,kA,kB,kC,kD,u64,kE,kF,kG,kH,kI,kJ,kK,lX,nC,nD,nE,nG,ll,ln,lq,lr,lu,lx,ly,lA,lB,lC,lD,lF,lG,lH,kL,tE,tF,tG,tH,tI,tJ,tK,vY,kP,kQ,kR,kS,kT,kU,kV,kW,kX,kY,kZ,lZ,jS,jT,iV,iW,iX,iY,iZ,ja,jb,jc,jd,je,jf,jg,jh,ji,jk,jl,yj,yl,ym,yn,yo,yq,yr,yt,u138,yu,yv,yw,yx,yy,yz,yA,yB,yC,yD,yE,yF],[]⟩:Act) W0:=by
 have H1:=ae h1;have H2:=ae h2;have HH:=ae h;have HF:=ae hf;obtain⟨A,cv,rfl,hcv,_⟩:=h.rows.cP;have Ml:=ae (λ(W:World) (hm:ft W q g c M m (.slice A l.length cv) l)=>hpart_any hm.row hm.ks k hk b ((X.aR.1 Fx).2 _ (X.aU hk)) (by have:=(X.aR.1 Fx).1;have:=hf.ks.size;omega));rw[←hS]at Ml;have nB:=ae (λx:HP=>df (X.val m.ks k x.1.b) (X.val m.ks k b));have fc:=ae hk;have HZ:=ae hz;have Ss:=ae (PS (b:=b) (k:=k) h.eq ho);have lg:(k:Int)<(m.ks.length:Nat):=by omega
 have HNJ:Hid (∀i (hi:i<l.length),i=j→decide (X.val m.ks k l[i].1.b=X.val m.ks k b)=false):=ae (λi hi e=>by
  subst e;rw[←hold,List.getElem?_eq_getElem hi]at ho;exact ho)
 have Ib:=hf.len;have ags:l.length≤cv:=hcv;clear hold h hf Fx ho hS hcv h1 h2 hk
 conv=>arg 2;whnf
 go_wp2_with fail;go_loopw [7,10] (fun t u W=>∃i:Nat,i≤l.length∧u= .int .i64 i∧t= .string ⟨(ptQ st (PR m b k l i)).toArray⟩∧Hid (PR m b k l i=true→(X.aF m.ks k).dup=true)∧Hid (Below W0.heap.size W0 W)) (fun _ u _=>l.length - (intOf u).toNat)
 case atStart=>exact⟨0,Nat.zero_le _,rfl,rfl,ae (λe=>by cases e),ae (ak _ _)⟩
 case round=>
  obtain⟨i,hi,rfl,rfl,Uh,HB⟩:=hrel;have hcc:=aj wr q (HH.out.below HB.out).row;by_cases hlt:i<l.length
  ·obtain⟨g0,c0,e0,hx1,hx2⟩:=HH.out.rows.cells hlt;clear hx1 hx2;injection e0 with e0 e1 e2;subst e0 e2;have PB:(i:Int)<(l.length:Nat):=(by omega);have Su:=((HH.out.below HB.out).rows.cellAt hlt).1;have ej:wr.cell? ⟨g0,i*2,none⟩=some (.string ⟨l[i].1.b.toArray⟩):=Su;clear Su;have aW:=ae hlt;have nh:=ae (show i≤1000000 by omega);have OJ:=ae (Mj (m:=m) (b:=b) (k:=k) hlt);have HNI:=ae (HNJ.out i hlt);have HIZ:Hid (((i:Int)=z∧i=j)∨¬(i:Int)=z):=ae (by have:=HZ.out;omega);have kz:Hid (Calls Tryz.prog 52 #[.pointer (some ⟨q,0,none⟩), .int .i64 (k:Nat), .string ⟨l[i].1.b.toArray⟩] wr λe w'=>e= .returned (.string ⟨(X.val m.ks k l[i].1.b).toArray⟩)∧Below wr.heap.size wr w'):=ae (HF.out.part (HH.out.below HB.out) fc.out l[i] (List.getElem_mem hlt));have gD:=ae (nB.out l[i]);generalize zu:(⟨(X.val m.ks k l[i].1.b).toArray⟩:ByteArray)=VK at kz gD;generalize Wa:(⟨(X.val m.ks k b).toArray⟩:ByteArray)=VV at gD Ml;generalize(⟨l[i].1.b.toArray⟩:ByteArray)=SI at ej kz;generalize X.val m.ks k l[i].1.b=vi at gD OJ HNI;clear zu Wa hi;rcases HIZ.out with⟨Xs,rv⟩|Xs
   ·have Xt:=ae (HNI.out rv);clear rv kz gD ej;have PX:((i:Int)==z)=true:=(by rw[Xs];simp);clear Xs HIZ;go_wp2;go_roundw
    case rel=>exact⟨i+1,aW.out,by first|exact fo i nh.out|rfl,by rw[OJ.out,Xt.out,Bool.or_false],ae (by rw[OJ.out,Xt.out,Bool.or_false];exact Uh.out),HB⟩
    case measure=>first|exact dT aW.out nh.out|exact dr aW.out
   ·have PX:((i:Int)==z)=false:=(by simpa using Xs);clear Xs HIZ HNI;go_wp2_with fail;refine kz.out.mono ?_;rintro e w5 ⟨rfl,hb⟩;have ed:=ae (HB.out.trans (hb.mono HB.out.size));have fB:=ae (Ml.out _ (HH.out.below ed.out));clear hb kz ej hcc;go_wp2_with fail;refine fB.out.mono ?_;rintro e w6 ⟨rfl,hb⟩;have jt:=ae (ed.out.trans (hb.mono ed.out.size));clear hb ed fB;have hcc:=aj w6 q (HH.out.below jt.out).row;have k3:=(HH.out.below jt.out).ks.dup fc.out;by_cases he:vi=X.val m.ks k b
    ·have hq:(VK.toList==VV.toList)=true:=(by rw[gD.out];exact decide_eq_true he);have OG:(VK.toList !=VV.toList)=false:=(by rw[bne,hq];rfl);have HTR:Hid (PR m b k l (i+1)=true):=ae (by rw[OJ.out,decide_eq_true he,Bool.or_true]);have nb:Hid (m.cI k b (old)=true):=ae (by
      rw[←Ss.out];have h1:=HTR.out;unfold PR at h1⊢;rw[List.take_length];obtain⟨x,hx,h2⟩:=List.any_eq_true.1 h1;exact List.any_eq_true.2 ⟨x,List.mem_of_mem_take hx,h2⟩)
     clear he gD;cases hd:(X.aF m.ks k).dup with
     |false=>
      rw[hd]at k3;have HD:=ae hd;clear hd;go_wp2;exact H2.out _ _ _ _ _ _ _ _ _ _ _ _ _ _ _ _ _ _ _ _ _ _ _ _ _ _ _ _ _ _ _ _ _ _ _ _ _ _ _ _ _ _ _ jt.out nb.out HD.out
     |true=>
      rw[hd]at k3;have HD:=ae hd;clear hd;go_wp2;go_roundw
      case rel=>exact⟨i+1,aW.out,by first|exact fo i nh.out|rfl,by rw[HTR.out];rfl,ae (λ_=>HD.out),jt⟩
      case measure=>first|exact dT aW.out nh.out|exact dr aW.out
    ·have hq:(VK.toList==VV.toList)=false:=(by rw[gD.out];exact decide_eq_false he);have OG:(VK.toList !=VV.toList)=true:=(by rw[bne,hq];rfl);have ZM:Hid (decide (vi=X.val m.ks k b)=false):=ae (decide_eq_false he);clear he gD hcc k3;go_wp2;go_roundw
     case rel=>exact⟨i+1,aW.out,by first|exact fo i nh.out|rfl,by rw[OJ.out,ZM.out,Bool.or_false],ae (by rw[OJ.out,ZM.out,Bool.or_false];exact Uh.out),jt⟩
     case measure=>first|exact dT aW.out nh.out|exact dr aW.out
  ·obtain rfl:i=l.length:=(by omega);have bV:=HB;go_wp2;rw[Ss.out];exact H1.out _ _ _ _ _ _ _ _ _ _ _ _ _ _ _ _ _ _ _ _ _ _ _ _ _ _ _ _ _ _ _ _ _ _ _ _ _ _ _ _ _ _ _ bV.out (by rw[←Ss.out];exact Uh.out)
end
section
variable {w w' : World} {q g c : Nat} {M : Nat → Prop} {m m' : X.M} {v v' : Value} {l l' : List HP}
theorem Ic (h:ft w q g c M m v l) (md:Nat) (od:Bool) (hb:(m.open md od).2≠[48,48]):
  Calls Tryz.prog 13 #[.pointer (some ⟨q,0,none⟩), .int .u8 (md:Nat), .bool od] w λe w'=>e= .returned (.string ⟨(m.open md od).2.toArray⟩)∧w=w'∧(m.open md od).1=m:=by
 have hc:=aj w q h.row;clear h;revert hb;unfold X.M.open;by_cases h1:md<1
 ·rw[if_pos (.inl h1)];intro _;have k1:(md:Int)<1:=(by omega);go_enter Tryz.func13,Tryz.ntmps13;go_wp2;go_ret;exact⟨rfl,rfl⟩
 ·have k1:¬(md:Int)<1:=(by omega);by_cases h2:4<md
  ·rw[if_pos (.inr h2)];intro _;have k2:(4:Int)<(md:Nat):=(by omega);go_enter Tryz.func13,Tryz.ntmps13;go_wp2;go_ret;exact⟨rfl,rfl⟩
  ·rw[if_neg (by omega)];have k2:¬(4:Int)<(md:Nat):=(by omega);by_cases h3:m.mode≠0
   ·rw[if_pos h3];intro _;have k3:(0:Int)<(m.mode:Nat):=(by omega);go_enter Tryz.func13,Tryz.ntmps13;go_wp2;go_ret;exact⟨rfl,rfl⟩
   ·rw[if_neg h3];have k3:¬(0:Int)<(m.mode:Nat):=(by omega);by_cases h4:md≠2∧m.there=false
    ·rw[if_pos h4];intro _;have k4:¬((md:Int)=2):=(by omega);rw[h4.2]at hc;go_enter Tryz.func13,Tryz.ntmps13;go_wp2;go_ret;exact⟨rfl,rfl⟩
    ·rw[if_neg h4];intro hb;exact absurd rfl hb
theorem Ie (h:ft w q g c M m v l) (od:Bool) (h0:m.mode=0):
  Calls Tryz.prog 13 #[.pointer (some ⟨q,0,none⟩), .int .u8 2, .bool od] w λe w'=>e= .returned (.string ⟨#[48,48]⟩)∧HR w q g c M (m.opened 2 od) (.slice none 0 0) [] w':=by
 have hc:=aj w q h.row;have hz:=aC h.row;have uk:=ae (aA (aA (aA (aA (World.grownBy.refl w (some q)) 3 (.bool true)) 4 (.slice none 0 0)) 5 (.int .i64 0)) 6 (.int .u8 2));have eb:Hid ((((((w.setCell ⟨q,3,none⟩ (.bool true)).setCell ⟨q,4,none⟩ (.slice none 0 0)).setCell ⟨q,5,none⟩ (.int .i64 0)).setCell ⟨q,6,none⟩ (.int .u8 2))).heap[q]? =some (gF {m with there:=true,rows:=[],time:=0,mode:=2} g c (.slice none 0 0))):=ae (aB (aB (aB (aB h.row 3 (.bool true)) 4 (.slice none 0 0)) 5 (.int .i64 0)) 6 (.int .u8 2));have HH:=ae h;have k3:¬(0:Int)<(m.mode:Nat):=by omega
 clear h;go_enter Tryz.func13,Tryz.ntmps13;go_upto_region 12 with fail;refine aM (λY=>w.grownBy Y (some q)∧Y.heap[q]? =some (gF {m with there:=true,rows:=[],time:=0,mode:=2} g c (.slice none 0 0))) ⟨uk.out,eb.out⟩ ?_;rintro W1 ⟨hg1,hr1⟩;have hc:=aj W1 q hr1;have hz:=aC hr1;have Oy:=ae (aA (aA (aA (aA hg1 7 (.bool od)) 8 (.int .i64 0)) 9 (.bool false)) 10 (.string ⟨#[]⟩));have fy:Hid ((((((W1.setCell ⟨q,7,none⟩ (.bool od)).setCell ⟨q,8,none⟩ (.int .i64 0)).setCell ⟨q,9,none⟩ (.bool false)).setCell ⟨q,10,none⟩ (.string ⟨#[]⟩))).heap[q]? =some (gF {m with there:=true,rows:=[],time:=0,mode:=2,ord:=od,key:=0,lost:=false,value:=[]} g c (.slice none 0 0))):=ae (aB (aB (aB (aB hr1 7 (.bool od)) 8 (.int .i64 0)) 9 (.bool false)) 10 (.string ⟨#[]⟩));clear hg1 hr1 uk eb k3;go_upto_region 16 with fail;refine aM (λY=>w.grownBy Y (some q)∧Y.heap[q]? =some (gF {m with there:=true,rows:=[],time:=0,mode:=2,ord:=od,key:=0,lost:=false,value:=[]} g c (.slice none 0 0))) ⟨Oy.out,fy.out⟩ ?_;rintro W2 ⟨hg2,hr2⟩;have hc:=aj W2 q hr2;have hz:=aC hr2;have zo:=ae (aA (aA (aA (aA hg2 11 (.int .i64 0)) 12 (.bool true)) 14 (.bool false)) 15 (.string ⟨#[]⟩));have FI:Hid ((((((W2.setCell ⟨q,11,none⟩ (.int .i64 0)).setCell ⟨q,12,none⟩ (.bool true)).setCell ⟨q,14,none⟩ (.bool false)).setCell ⟨q,15,none⟩ (.string ⟨#[]⟩))).heap[q]? =some (gF (m.opened 2 od) g c (.slice none 0 0))):=ae (aB (aB (aB (aB hr2 11 (.int .i64 0)) 12 (.bool true)) 14 (.bool false)) 15 (.string ⟨#[]⟩));clear hg2 hr2 Oy fy;go_wp2;go_ret;exact⟨rfl,zo.out,HH.out.Mh zo.out FI.out rfl mP.ey rfl⟩
end
end Go.Proofs.YtipljcmmokaokaaGreat
