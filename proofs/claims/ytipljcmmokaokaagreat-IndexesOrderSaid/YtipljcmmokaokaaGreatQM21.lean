import Derived.Test.YtipljcmmokaokaaGreatQM18
set_option linter.unusedVariables false
set_option linter.unusedSimpArgs false
set_option maxHeartbeats 4000000
namespace Go.Proofs.YtipljcmmokaokaaGreat
open Go.RowKit Go.Lib Go.Maps Go.WideMaps Go.Sort
set_option maxRecDepth 100000
theorem oy (j:Nat) (h:j≤1000000):Value.int .i64 (wrap64 ((j:Int)+1))= .int .i64 ((j+1:Nat):Int):=by rw[ND j h]
theorem lS {j n:Nat} (h:j<n) (hj:j≤1000000):n - (intOf (Value.int .i64 (wrap64 ((j:Int)+1)))).toNat<n - (intOf (Value.int .i64 (j:Int))).toNat:=by
 rw[ND j hj];simp only[intOf];omega
theorem kM {j n:Nat} (h:j<n):n - (intOf (Value.int .i64 ((j:Int)+1))).toNat<n - (intOf (Value.int .i64 (j:Int))).toNat:=by
 simp only[intOf];omega
theorem NJ (x k:J.B):Op.bytesLess (⟨x.toArray⟩:ByteArray).toList (⟨k.toArray⟩:ByteArray).toList=decide (x<k):=by
 rw[ByteArray.toList_eq,ByteArray.toList_eq,bytesLess_eq]
theorem Ay {x:J.B} (h:x≠[]):¬(⟨x.toArray⟩:ByteArray).toList=[]∧(⟨x.toArray⟩:ByteArray).toList.isEmpty=false:=by
 rw[ByteArray.toList_eq];exact⟨h,by cases x with|nil=>exact absurd rfl h|cons _ _=>rfl⟩
theorem NK (wr:J.B) (l:List Nat) (md:Nat) (h:wr≠[]):X.cB wr l md≠[]:=by
 unfold X.cB;split
 ·decide
 ·split
  ·decide
  ·exact h
theorem B6 {p:X.Row→Bool} {ls:List HP} (hno:∀t (ht:t<ls.length),p ls[t].1=false):(ls.map (·.1)).find? p=none:=
 List.find?_eq_none.2 (fun x hx=>by
  obtain⟨z,hz,rfl⟩:=List.mem_map.1 hx;obtain⟨t,ht,rfl⟩:=List.getElem_of_mem hz;rw[hno t ht];decide)
section
variable {w w' : World} {q g c : Nat} {M : Nat → Prop} {m : X.M} {v : Value} {l : List HP}
theorem oL.bS (h:oL w q g c M m v l) (k:Nat):(pE m.ks k l).map (·.1)=X.bS m.ks k m.rows:=by rw[zi,h.eq]
theorem jI.bS (hf:jI m l) (k:Nat):jI m (pE m.ks k l):=hf.sub (fun x hx=>uv l hx) (by rw[uu];exact aj _)
theorem jI.of (h:oL w q g c M m v l) {size ct:Nat} (hr:X.aS m.ks m.size ct m.rows) (hk:X.fQ m.ks m.size) (hl:m.rows.length≤1000000):jI m l:=by
 have hm:∀x∈l,x.1∈m.rows:=fun x hx=>by rw[←h.eq];exact List.mem_map_of_mem hx
 exact⟨fun x hx=>hr.fit _ (hm x hx),fun x hx=>hr.tl _ (hm x hx),hk,by rw[h.len];exact hl⟩
theorem EB (hr:w.heap[q]? =some (pQ m g c v)) (di:J.B) (a b d:Nat) (ls:List Nat) (hl:∀x,x∈ls↔x=a∨x=b∨x=d) (hw:di≠X.good) (hc:X.cB di ls m.mode=X.good):
  Calls Tryz.prog 59 #[.pointer (some ⟨q,0,none⟩), .string ⟨di.toArray⟩, .int .u8 (a:Nat), .int .u8 (b:Nat), .int .u8 (d:Nat)] w fun e w'=>e= .returned (.string ⟨#[]⟩)∧w=w':=by
 have:=ur hr di a b d;rw[Ko hl hw hc]at this;exact this
theorem EC (hr:w.heap[q]? =some (pQ m g c v)) (di:J.B) (a b d:Nat) (ls:List Nat) (hl:∀x,x∈ls↔x=a∨x=b∨x=d) (hc:X.cB di ls m.mode≠X.good):
  Calls Tryz.prog 59 #[.pointer (some ⟨q,0,none⟩), .string ⟨di.toArray⟩, .int .u8 (a:Nat), .int .u8 (b:Nat), .int .u8 (d:Nat)] w fun e w'=>e= .returned (.string ⟨(X.cB di ls m.mode).toArray⟩)∧w=w':=by
 have:=ur hr di a b d;rw[Kq hl hc]at this;exact this
def HR (w:World) (q g c:Nat) (M:Nat→Prop) (m':X.M) (v':Value) (l':List HP) (w':World):Prop:=w.grownBy w' (some q)∧oL w' q g c M m' v' l'
theorem C9 (h:oL w q g c M m v l):HR w q g c M m v l w:=⟨World.grownBy.refl w _,h⟩
theorem zr (h:oL w q g c M m v l) (hb:Below w.heap.size w w'):HR w q g c M m v l w':=⟨⟨hb.os,hb.tape,hb.output,hb.size,fun k hk _=>hb.block k hk⟩,h.below hb⟩
theorem HR.below {w1 w2:World} {m':X.M} {v':Value} {l':List HP} (h:HR w q g c M m' v' l' w1) (hb:Below w1.heap.size w1 w2):HR w q g c M m' v' l' w2:=
 ⟨⟨hb.os.trans h.1.os,hb.tape.trans h.1.tape,hb.output.trans h.1.output,au h.1.size hb.size,fun k hk hn=>(hb.block k (aq hk h.1.size)).trans (h.1.block k hk hn)⟩,h.2.below hb⟩
theorem zt {w1 w2:World} {r:Option Nat} (h1:w.grownBy w1 r) (h2:w1.grownBy w2 r):w.grownBy w2 r:=
 ⟨h2.os.trans h1.os,h2.tape.trans h1.tape,h2.output.trans h1.output,au h1.size h2.size,fun k hk hn=>(h2.block k (aq hk h1.size) hn).trans (h1.block k hk hn)⟩
theorem HR.trans {w1 w2:World} {m1 m2:X.M} {v1 v2:Value} {l1 l2:List HP} (h1:HR w q g c M m1 v1 l1 w1) (h2:HR w1 q g c M m2 v2 l2 w2):HR w q g c M m2 v2 l2 w2:=⟨zt h1.1 h2.1,h2.2⟩
theorem oL.Mo {m':X.M} {v':Value} {l':List HP} (h:oL w q g c M m v l) (hg:w.grownBy w' (some q)) (hr:w'.heap[q]? =some (pQ m' g c v')) (e1:m'.ks=m.ks) (hl:qP w' M v' l') (e2:l'.map (·.1)=m'.rows):oL w' q g c M m' v' l':=by
 refine⟨hr, ?_,h.ng,hl,h.nq,e2⟩;rw[e1];exact⟨aq h.ks.1 hg.size,fun j u hu=>(World.cell?_of_block (hg.block g h.ks.1 (fun e=>h.ng (by injection e)))).trans (h.ks.2 j u hu)⟩
theorem HR.set {m1 m':X.M} {w1:World} (h:HR w q g c M m1 v l w1) (j:Nat) (x:Value) (hr:(w1.setCell ⟨q,j,none⟩ x).heap[q]? =some (pQ m' g c v)) (e1:m'.ks=m1.ks) (e2:m'.rows=m1.rows):HR w q g c M m' v l (w1.setCell ⟨q,j,none⟩ x):=
 ⟨ay h.1 j x,h.2.turn (ay (World.grownBy.refl w1 (some q)) j x) hr e1 e2⟩
end
namespace X
section
variable {m : M} {b : B} {old : Option Row}
def JP (m:M) (b:B) (old:Option Row) (i:Nat):Nat:=if i=0 then 0 else match old with
 |some o=>if val m.ks i o.b=val m.ks i b then o.t i else m.time+1
 |none=>m.time+1
theorem ED:m.times b old=(List.range m.ks.length).map (JP m b old):=by
 unfold M.times;refine List.map_congr_left (fun i _=> ?_);unfold JP;cases old<;>rfl
def xt (m:M) (b:B) (old:Option Row) (k:Nat):List Nat:=(List.range m.ks.length).map fun i=>if i<k then JP m b old i else 0
theorem lT (k:Nat):(xt m b old k).length=m.ks.length:=by simp[xt]
theorem KE:xt m b old 1=List.replicate m.ks.length 0:=by
 apply List.ext_getElem
 ·simp[xt]
 ·intro i h1 h2;simp only[xt,List.getElem_map,List.getElem_range,List.getElem_replicate];split
  ·rename_i h
   unfold JP;rw[if_pos (by omega)]
  ·rfl
theorem Da (k:Nat):(xt m b old k).set k (JP m b old k)=xt m b old (k+1):=by
 apply List.ext_getElem
 ·simp[xt]
 ·intro i h1 h2;rw[List.getElem_set];simp only[xt,List.getElem_map,List.getElem_range];by_cases e:k=i
  ·subst e;rw[if_pos rfl,if_pos (by omega)]
  ·rw[if_neg e];by_cases h:i<k
   ·rw[if_pos h,if_pos (by omega)]
   ·rw[if_neg h,if_neg (by omega)]
theorem Db:xt m b old m.ks.length=m.times b old:=by
 rw[ED];apply List.ext_getElem
 ·simp[xt]
 ·intro i h1 h2;simp only[xt,List.getElem_map,List.getElem_range];rw[if_pos (by simpa [xt] using h1)]
def Mp (m:M) (b:B) (old:Option Row) (k:Nat):B:=if(List.range' 1 (k - 1)).any (fun i=>m.cN i b old)then [48,50]else [48,48]
def Ql (m:M) (b:B) (old:Option Row) (k:Nat):Prop:=∀i,1≤i→i<k→m.cN i b old=true→(aF m.ks i).dup=true
theorem KF:Ql m b old 1:=fun i h1 h2=>by omega
theorem Ia {k:Nat} (h:1≤k):Mp m b old (k+1)=if m.cN k b old=true then [48,50]else Mp m b old k:=by
 unfold Mp;rw[show k+1 - 1=(k - 1)+1 by omega,List.range'_concat,List.any_append,List.any_cons,List.any_nil,Bool.or_false,show 1+1*(k - 1)=k by omega];cases m.cN k b old with
 |true=>rw[Bool.or_true];rfl
 |false=>rw[Bool.or_false];rfl
theorem uC {k:Nat} (h:Ql m b old k) (hk:m.cN k b old=true→(aF m.ks k).dup=true):Ql m b old (k+1):=fun i h1 h2 hc=>by
 by_cases e:i=k
 ·subst e;exact hk hc
 ·exact h i h1 (by omega) hc
theorem EE (hn:Ql m b old m.ks.length):m.dZ b old=Mp m b old m.ks.length:=by
 unfold M.dZ;rw[if_neg]
 ·rfl
 ·intro hh;obtain⟨i,hi,h2⟩:=List.any_eq_true.1 hh;rw[Bool.and_eq_true]at h2;rw[List.mem_range'_1]at hi;rw[hn i hi.1 (by omega) h2.1]at h2;cases h2.2
theorem NL (k:Nat):Mp m b old k≠[50,50]:=by
 unfold Mp;split<;>decide
theorem wy {k:Nat} (h1:1≤k) (h2:k<m.ks.length) (hc:m.cN k b old=true) (hd:(aF m.ks k).dup=false):m.dZ b old=[50,50]:=by
 unfold M.dZ;rw[if_pos (List.any_eq_true.2 ⟨k,by rw[List.mem_range'_1];omega,by rw[hc,hd];rfl⟩)]
end
end X
def KG (m:X.M) (b:J.B) (k:Nat) (l:List HP) (i:Nat):Bool:=(l.take i).any fun x=>decide (X.val m.ks k x.1.b=X.val m.ks k b)
theorem Ib {m:X.M} {b:J.B} {k:Nat} {l:List HP} {i:Nat} (h:i<l.length):KG m b k l (i+1)=(KG m b k l i||decide (X.val m.ks k l[i].1.b=X.val m.ks k b)):=by
 unfold KG;rw[List.take_succ_eq_append_getElem h,List.any_append,List.any_cons,List.any_nil,Bool.or_false]
theorem KH {m:X.M} {b:J.B} {k:Nat} {l:List HP} (he:l.map (·.1)=m.rows) {old:Option X.Row} (hk:X.keeps m.ks k b old=false):KG m b k l l.length=m.cN k b old:=by
 unfold KG X.M.cN;rw[hk,List.take_length,←he,List.any_map];rfl
def Wk (st:J.B) (f:Bool):J.B:=if f then [48,50]else st
abbrev KJ (ts:List Nat):Obj:= .cells (ts.map qO).toArray 3 (0,0)
theorem Tryz.Qm:(Tryz.prog.info? 3).map (fun i=>(i.zero,i.size,i.bytes))=some (some (.int .i64 0),1,8):=by kernel_rfl
theorem KL (n:Nat):madeCells #[(.int .i64 0:Value)] n=((List.replicate n 0).map qO).toArray:=by
 unfold madeCells;apply Array.ext
 ·simp
 ·intro i h1 h2;simp[Nat.mod_one]
theorem NM (n:Nat) (hn:n≤100000) (W:World):(Instr.makeSlice 50 (.int .i64 (n:Nat)) (.int .i64 (n:Nat))).run Tryz.prog W= .ok (.slice (some ⟨W.heap.size,0,none⟩) n n) (W.alloc (KJ (List.replicate n 0))):=by
 obtain⟨i0,hi,hz0,hz1,hz2⟩:=info_parts Tryz.Qm;have h:=run_makeSlice (P:=Tryz.prog) W 50 3 i0 _ Tryz.underlying50 hi hz0 .i64 .i64 n n (by omega) (Int.le_refl _) (by rw[hz1];omega) (by rw[hz2];omega) (by omega);rw[hz1]at h;simp only[Int.toNat_natCast,Nat.mul_one]at h;have e:(Value.int .i64 0).cells=#[(.int .i64 0:Value)]:=rfl;rw[e,KL]at h;exact h
theorem sX {w:World} {tb:Nat} {ts:List Nat} (h:w.heap[tb]? =some (KJ ts)) {k:Nat} (hk:k<ts.length):w.cell? ⟨tb,k,none⟩=some (qO ts[k]):=by
 rw[cell_of_row w tb k _ _ _ h];simp[hk]
theorem NN {w:World} {tb:Nat} {ts:List Nat} (h:w.heap[tb]? =some (KJ ts)) (k x:Nat):(w.setCell ⟨tb,k,none⟩ (qO x)).heap[tb]? =some (KJ (ts.set k x)):=by
 rw[aC h];simp only[KJ,List.map_set];rw[List.setIfInBounds_toArray]
structure FA (w:World) (tb:Nat) (ts:List Nat) (W:World):Prop where
 bel:Below w.heap.size w W
 tm:W.heap[tb]? =some (KJ ts)
theorem FA.below {w W W':World} {tb:Nat} {ts:List Nat} (h:FA w tb ts W) (hb:Below W.heap.size W W'):FA w tb ts W':=
 ⟨h.bel.trans (hb.mono h.bel.size),(hb.block tb (ah h.tm).1).trans h.tm⟩
theorem FA.set {w W:World} {tb:Nat} {ts:List Nat} (h:FA w tb ts W) (ht:w.heap.size≤tb) (k x:Nat):FA w tb (ts.set k x) (W.setCell ⟨tb,k,none⟩ (qO x)):=
 ⟨h.bel.setCell ht _,NN h.tm k x⟩
theorem B7 {l:List HP} {i j:Nat} (h:i<l.length):(l.take (i+1)).eraseIdx j=if i=j then(l.take i).eraseIdx j else(l.take i).eraseIdx j++[l[i]]:=by
 rw[List.take_succ_eq_append_getElem h];have hl:(l.take i).length=i:=by rw[List.length_take];omega
 by_cases e:i=j
 ·subst e;rw[if_pos rfl,List.eraseIdx_append_of_length_le (by omega),hl,Nat.sub_self,List.eraseIdx_cons_zero,List.append_nil,List.eraseIdx_of_length_le (by omega)]
 ·rw[if_neg e];by_cases hj:j<i
  ·rw[List.eraseIdx_append_of_lt_length (by omega)]
  ·rw[List.eraseIdx_of_length_le (l:=l.take i) (by omega),List.eraseIdx_of_length_le (by rw[List.length_append,hl,List.length_singleton];omega)]
def NP (m:X.M) (b:J.B) (l:List HP) (j:Nat) (old:Option X.Row):X.M:={m with rows:=(l.eraseIdx j).map (·.1)++[⟨b,m.times b old⟩],time:=m.time+1}
theorem Ic {m:X.M} {b:J.B} {l:List HP} (he:l.map (·.1)=m.rows) (hn:∀x∈l,X.val m.ks 0 x.1.b≠X.val m.ks 0 b):NP m b l l.length none=m.put b none:=by
 unfold NP X.M.put;rw[List.eraseIdx_of_length_le (Nat.le_refl _),he];have:m.rows.filter (fun r=>decide (X.val m.ks 0 r.b≠X.val m.ks 0 b))=m.rows:=List.filter_eq_self.2 (fun x hx=>by
  rw[←he]at hx;obtain⟨y,hy,rfl⟩:=List.mem_map.1 hx;exact decide_eq_true (hn y hy))
 rw[this]
def r6 (n:Nat):Code→Option Code
 | .block id c=>if id=n then some (.block id c)else r6 n c
 | .loop c=>r6 n c
 | .seq a b=>match r6 n a with
  |some c=>some c
  |none=>r6 n b
 | .scope c=>r6 n c
 | .cond _ a b=>match r6 n a with
  |some c=>some c
  |none=>r6 n b
 |_=>none
noncomputable def NQ:Code:=(Tryz.f62.body.bind (r6 2)).getD .skip
section
variable {w w' : World} {q g c : Nat} {M : Nat → Prop} {m : X.M} {v : Value} {l : List HP}
theorem Mq {W0:World} {Q:Exit→Act→World→Prop} (h:oL W0 q g c M m v l) (hf:jI m l) {k:Nat} (hk:k<m.ks.length) (b:J.B) (C0:X.bg m.ks m.size b=true) (j:Nat) (z:Int) (hz:(z=(j:Nat)∧j<l.length)∨(z= -1∧j=l.length)) {old:Option X.Row} (hold:(l[j]?).map (·.1)=old) (ho:X.keeps m.ks k b (old)=false)
  (S:ByteArray) (hS:S=⟨b.toArray⟩) (st:J.B) (u3 u4 u5 u6 u8 dF kj fU fV fW u16 fX fY ei ej en eo u23 u24 gD u26 gF u28 gG gH gI u32 u33 gJ gK gL gM gN gO gP ep er eu u44 ew ey ez eB eC eD eE eF eG eH eI eJ eK eL eM jM jN jO jP u64 jQ jR jS jJ jK jT jU j6 j7 j8 j9 ke jy jf jg jh ji jk jl jm jn jo jq jr js jt ju mD mE mF mG mH mI mJ mK gR gS gT gU gV gW eN eO eP eQ eR eT dM dN dO dP dQ fe fg fh fj fk fo fp fq ft fu fw fx fy fz fA fB dR dS dT dU dV u138 fC fD fE fF fG fH fI fJ fK fL fM fO:Value)
  (h1:∀(d6 d10 d72 d73 d74 d75 d76 d77 d78 d79 d80 d81 d82 d83 d84 d85 d86 d87 d88 d89 d90 d91 d92 d93 d94 d95 d96 d97 d98 d99 d100 d101 d102 d103 d104 d105 d106 d107 d108 d109 d110 d111:Value) (W':World),Below W0.heap.size W0 W'→(m.cN k b (old)=true→(X.aF m.ks k).dup=true)→Q .normal (⟨#[.pointer (some ⟨q,0,none⟩), .string S, .int .i64 z,u3,u4,u5,d6, .string ⟨(Wk st (m.cN k b old)).toArray⟩,u8, .int .i64 (k:Nat),d10,dF,kj,fU,fV,fW,u16,fX,fY,ei,ej,en,eo,u23,u24,gD,u26,gF,u28,gG,gH,gI,u32,u33,gJ,gK,gL,gM,gN,gO,gP,ep,er,eu,u44,ew,ey,ez,eB,eC,eD,eE,eF,eG,eH,eI,eJ,eK,eL,eM,jM,jN,jO,jP,u64,jQ,jR,jS,jJ,jK,jT,jU,d72,d73,d74,d75,d76,d77,d78,d79,d80,d81,d82,d83,d84,d85,d86,d87,d88,d89,d90,d91,d92,d93,d94,d95,d96,d97,d98,d99,d100,d101,d102,d103,d104,d105,d106,d107,d108,d109,d110,d111,dM,dN,dO,dP,dQ,fe,fg,fh,fj,fk,fo,fp,fq,ft,fu,fw,fx,fy,fz,fA,fB,dR,dS,dT,dU,dV,u138,fC,fD,fE,fF,fG,fH,fI,fJ,fK,fL,fM,fO],[]⟩:Act) W')
  (h2:∀(d7 d10 d72 d73 d74 d75 d76 d77 d78 d79 d80 d81 d82 d83 d84 d85 d86 d87 d88 d89 d90 d91 d92 d93 d94 d95 d96 d97 d98 d99 d100 d101 d102 d103 d104 d105 d106 d107 d108 d109 d110 d111:Value) (W':World),Below W0.heap.size W0 W'→m.cN k b (old)=true→(X.aF m.ks k).dup=false→Q .ret (⟨#[.pointer (some ⟨q,0,none⟩), .string S, .int .i64 z,u3,u4,u5, .string ⟨#[50,50]⟩,d7,u8, .int .i64 (k:Nat),d10,dF,kj,fU,fV,fW,u16,fX,fY,ei,ej,en,eo,u23,u24,gD,u26,gF,u28,gG,gH,gI,u32,u33,gJ,gK,gL,gM,gN,gO,gP,ep,er,eu,u44,ew,ey,ez,eB,eC,eD,eE,eF,eG,eH,eI,eJ,eK,eL,eM,jM,jN,jO,jP,u64,jQ,jR,jS,jJ,jK,jT,jU,d72,d73,d74,d75,d76,d77,d78,d79,d80,d81,d82,d83,d84,d85,d86,d87,d88,d89,d90,d91,d92,d93,d94,d95,d96,d97,d98,d99,d100,d101,d102,d103,d104,d105,d106,d107,d108,d109,d110,d111,dM,dN,dO,dP,dQ,fe,fg,fh,fj,fk,fo,fp,fq,ft,fu,fw,fx,fy,fz,fA,fB,dR,dS,dT,dU,dV,u138,fC,fD,fE,fF,fG,fH,fI,fJ,fK,fL,fM,fO],[]⟩:Act) W'):Code.wp Tryz.prog NQ Q (⟨#[.pointer (some ⟨q,0,none⟩), .string S, .int .i64 z,u3,u4,u5,u6, .string ⟨st.toArray⟩,u8, .int .i64 (k:Nat), .int .i64 0,dF,kj,fU,fV,fW,u16,fX,fY,ei,ej,en,eo,u23,u24,gD,u26,gF,u28,gG,gH,gI,u32,u33,gJ,gK,gL,gM,gN,gO,gP,ep,er,eu,u44,ew,ey,ez,eB,eC,eD,eE,eF,eG,eH,eI,eJ,eK,eL,eM,jM,jN,jO,jP,u64,jQ,jR,jS,jJ,jK,jT,jU,j6,j7,j8,j9,ke,jy,jf,jg,jh,ji,jk,jl,jm,jn,jo,jq,jr,js,jt,ju,mD,mE,mF,mG,mH,mI,mJ,mK,gR,gS,gT,gU,gV,gW,eN,eO,eP,eQ,eR,eT,dM,dN,dO,dP,dQ,fe,fg,fh,fj,fk,fo,fp,fq,ft,fu,fw,fx,fy,fz,fA,fB,dR,dS,dT,dU,dV,u138,fC,fD,fE,fF,fG,fH,fI,fJ,fK,fL,fM,fO],[]⟩:Act) W0:=by
 have H1:=aa h1;have H2:=aa h2;have HH:=aa h;have HF:=aa hf;obtain⟨A,cv,rfl,hcv,_⟩:=h.rows.dg;have NR:=aa (fun(W:World) (hm:oL W q g c M m (.slice A l.length cv) l)=>hpart_any hm.row hm.ks k hk b ((X.aM.1 C0).2 _ (X.aR hk)) (by have:=(X.aM.1 C0).1;have:=hf.ks.size;omega));rw[←hS]at NR;have BR:=aa (fun x:HP=>ea (X.val m.ks k x.1.b) (X.val m.ks k b));have po:=aa hk;have HZ:=aa hz;have O9:=aa (KH (b:=b) (k:=k) h.eq ho);have ma:(k:Int)<(m.ks.length:Nat):=by omega
 have Yx:Hid (∀i (hi:i<l.length),i=j→decide (X.val m.ks k l[i].1.b=X.val m.ks k b)=false):=aa (fun i hi e=>by
  subst e;rw[←hold,List.getElem?_eq_getElem hi]at ho;exact ho)
 have xu:=hf.len;have Yy:l.length≤cv:=hcv;clear hold h hf C0 ho hS hcv h1 h2 hk
 conv=>arg 2;whnf
 go_wp2_with fail;go_loopw [7,10] (fun t u W=>∃i:Nat,i≤l.length∧u= .int .i64 i∧t= .string ⟨(Wk st (KG m b k l i)).toArray⟩∧Hid (KG m b k l i=true→(X.aF m.ks k).dup=true)∧Hid (Below W0.heap.size W0 W)) (fun _ u _=>l.length - (intOf u).toNat)
 case atStart=>exact⟨0,Nat.zero_le _,rfl,rfl,aa (fun e=>by cases e),aa (ai _ _)⟩
 case round=>
  obtain⟨i,hi,rfl,rfl,NS,HB⟩:=hrel;have hcc:=fun j=>ag wr q j _ _ _ (HH.out.below HB.out).row;by_cases hlt:i<l.length
  ·obtain⟨g0,c0,e0,hx1,hx2⟩:=HH.out.rows.cells hlt;clear hx1 hx2;injection e0 with e0 e1 e2;subst e0 e2;have O3:(i:Int)<(l.length:Nat):=(by omega);have Mr:=((HH.out.below HB.out).rows.cellAt hlt).1;have cQ:wr.cell? ⟨g0,i*2,none⟩=some (.string ⟨l[i].1.b.toArray⟩):=Mr;clear Mr;have a7:=aa hlt;have vy:=aa (show i≤1000000 by omega);have JQ:=aa (Ib (m:=m) (b:=b) (k:=k) hlt);have T6:=aa (Yx.out i hlt);have T7:Hid (((i:Int)=z∧i=j)∨¬(i:Int)=z):=aa (by have:=HZ.out;omega);have zh:Hid (Calls Tryz.prog 52 #[.pointer (some ⟨q,0,none⟩), .int .i64 (k:Nat), .string ⟨l[i].1.b.toArray⟩] wr fun e w'=>e= .returned (.string ⟨(X.val m.ks k l[i].1.b).toArray⟩)∧Below wr.heap.size wr w'):=aa (HF.out.part (HH.out.below HB.out) po.out l[i] (List.getElem_mem hlt));have oI:=aa (BR.out l[i]);generalize Sv:(⟨(X.val m.ks k l[i].1.b).toArray⟩:ByteArray)=VK at zh oI;generalize Yz:(⟨(X.val m.ks k b).toArray⟩:ByteArray)=VV at oI NR;generalize(⟨l[i].1.b.toArray⟩:ByteArray)=SI at cQ zh;generalize X.val m.ks k l[i].1.b=vi at oI JQ T6;clear Sv Yz hi;rcases T7.out with⟨Qn,qY⟩|Qn
   ·have Qo:=aa (T6.out qY);clear qY zh oI cQ;have NT:((i:Int)==z)=true:=(by rw[Qn];simp);clear Qn T7;go_wp2;go_roundw
    case rel=>exact⟨i+1,a7.out,by first|exact oy i vy.out|rfl,by rw[JQ.out,Qo.out,Bool.or_false],aa (by rw[JQ.out,Qo.out,Bool.or_false];exact NS.out),HB⟩
    case measure=>first|exact lS a7.out vy.out|exact kM a7.out
   ·have NT:((i:Int)==z)=false:=(by simpa using Qn);clear Qn T7 T6;go_wp2_with fail;refine zh.out.mono ?_;rintro e w5 ⟨rfl,hb⟩;have jX:=aa (HB.out.trans (hb.mono HB.out.size));have kn:=aa (NR.out _ (HH.out.below jX.out));clear hb zh cQ hcc;go_wp2_with fail;refine kn.out.mono ?_;rintro e w6 ⟨rfl,hb⟩;have nL:=aa (jX.out.trans (hb.mono jX.out.size));clear hb jX kn;have hcc:=fun j=>ag w6 q j _ _ _ (HH.out.below nL.out).row;have k3:=(HH.out.below nL.out).ks.dup po.out;by_cases he:vi=X.val m.ks k b
    ·have hq:(VK.toList==VV.toList)=true:=(by rw[oI.out];exact decide_eq_true he);have Su:(VK.toList !=VV.toList)=false:=(by rw[bne,hq];rfl);have Wl:Hid (KG m b k l (i+1)=true):=aa (by rw[JQ.out,decide_eq_true he,Bool.or_true]);have jw:Hid (m.cN k b (old)=true):=aa (by
      rw[←O9.out];have h1:=Wl.out;unfold KG at h1⊢;rw[List.take_length];obtain⟨x,hx,h2⟩:=List.any_eq_true.1 h1;exact List.any_eq_true.2 ⟨x,List.mem_of_mem_take hx,h2⟩)
     clear he oI;cases hd:(X.aF m.ks k).dup with
     |false=>
      rw[hd]at k3;have HD:=aa hd;clear hd;go_wp2;exact H2.out _ _ _ _ _ _ _ _ _ _ _ _ _ _ _ _ _ _ _ _ _ _ _ _ _ _ _ _ _ _ _ _ _ _ _ _ _ _ _ _ _ _ _ nL.out jw.out HD.out
     |true=>
      rw[hd]at k3;have HD:=aa hd;clear hd;go_wp2;go_roundw
      case rel=>exact⟨i+1,a7.out,by first|exact oy i vy.out|rfl,by rw[Wl.out];rfl,aa (fun _=>HD.out),nL⟩
      case measure=>first|exact lS a7.out vy.out|exact kM a7.out
    ·have hq:(VK.toList==VV.toList)=false:=(by rw[oI.out];exact decide_eq_false he);have Su:(VK.toList !=VV.toList)=true:=(by rw[bne,hq];rfl);have Wm:Hid (decide (vi=X.val m.ks k b)=false):=aa (decide_eq_false he);clear he oI hcc k3;go_wp2;go_roundw
     case rel=>exact⟨i+1,a7.out,by first|exact oy i vy.out|rfl,by rw[JQ.out,Wm.out,Bool.or_false],aa (by rw[JQ.out,Wm.out,Bool.or_false];exact NS.out),nL⟩
     case measure=>first|exact lS a7.out vy.out|exact kM a7.out
  ·obtain rfl:i=l.length:=(by omega);have cH:=HB;go_wp2;rw[O9.out];exact H1.out _ _ _ _ _ _ _ _ _ _ _ _ _ _ _ _ _ _ _ _ _ _ _ _ _ _ _ _ _ _ _ _ _ _ _ _ _ _ _ _ _ _ _ cH.out (by rw[←O9.out];exact NS.out)
end
section
variable {w w' : World} {q g c : Nat} {M : Nat → Prop} {m m' : X.M} {v v' : Value} {l l' : List HP}
theorem EF (h:oL w q g c M m v l) (od:Bool) (h0:m.mode=0):
  Calls Tryz.prog 13 #[.pointer (some ⟨q,0,none⟩), .int .u8 2, .bool od] w fun e w'=>e= .returned (.string ⟨#[48,48]⟩)∧HR w q g c M (m.opened 2 od) (.slice none 0 0) [] w':=by
 have hc:=fun j=>ag w q j _ _ _ h.row;have hz:=az h.row;have sq:=aa (ay (ay (ay (ay (World.grownBy.refl w (some q)) 3 (.bool true)) 4 (.slice none 0 0)) 5 (.int .i64 0)) 6 (.int .u8 2));have eX:Hid ((((((w.setCell ⟨q,3,none⟩ (.bool true)).setCell ⟨q,4,none⟩ (.slice none 0 0)).setCell ⟨q,5,none⟩ (.int .i64 0)).setCell ⟨q,6,none⟩ (.int .u8 2))).heap[q]? =some (pQ {m with there:=true,rows:=[],time:=0,mode:=2} g c (.slice none 0 0))):=aa (aC (aC (aC (aC h.row 3 (.bool true)) 4 (.slice none 0 0)) 5 (.int .i64 0)) 6 (.int .u8 2));have HH:=aa h;have k3:¬(0:Int)<(m.mode:Nat):=by omega
 clear h;go_enter Tryz.func13,Tryz.ntmps13;go_upto_region 12 with fail;refine aG (fun Y=>w.grownBy Y (some q)∧Y.heap[q]? =some (pQ {m with there:=true,rows:=[],time:=0,mode:=2} g c (.slice none 0 0))) ⟨sq.out,eX.out⟩ ?_;rintro W1 ⟨hg1,hr1⟩;have hc:=fun j=>ag W1 q j _ _ _ hr1;have hz:=az hr1;have R6:=aa (ay (ay (ay (ay hg1 7 (.bool od)) 8 (.int .i64 0)) 9 (.bool false)) 10 (.string ⟨#[]⟩));have dc:Hid ((((((W1.setCell ⟨q,7,none⟩ (.bool od)).setCell ⟨q,8,none⟩ (.int .i64 0)).setCell ⟨q,9,none⟩ (.bool false)).setCell ⟨q,10,none⟩ (.string ⟨#[]⟩))).heap[q]? =some (pQ {m with there:=true,rows:=[],time:=0,mode:=2,ord:=od,key:=0,lost:=false,value:=[]} g c (.slice none 0 0))):=aa (aC (aC (aC (aC hr1 7 (.bool od)) 8 (.int .i64 0)) 9 (.bool false)) 10 (.string ⟨#[]⟩));clear hg1 hr1 sq eX k3;go_upto_region 16 with fail;refine aG (fun Y=>w.grownBy Y (some q)∧Y.heap[q]? =some (pQ {m with there:=true,rows:=[],time:=0,mode:=2,ord:=od,key:=0,lost:=false,value:=[]} g c (.slice none 0 0))) ⟨R6.out,dc.out⟩ ?_;rintro W2 ⟨hg2,hr2⟩;have hc:=fun j=>ag W2 q j _ _ _ hr2;have hz:=az hr2;have vO:=aa (ay (ay (ay (ay hg2 11 (.int .i64 0)) 12 (.bool true)) 14 (.bool false)) 15 (.string ⟨#[]⟩));have JR:Hid ((((((W2.setCell ⟨q,11,none⟩ (.int .i64 0)).setCell ⟨q,12,none⟩ (.bool true)).setCell ⟨q,14,none⟩ (.bool false)).setCell ⟨q,15,none⟩ (.string ⟨#[]⟩))).heap[q]? =some (pQ (m.opened 2 od) g c (.slice none 0 0))):=aa (aC (aC (aC (aC hr2 11 (.int .i64 0)) 12 (.bool true)) 14 (.bool false)) 15 (.string ⟨#[]⟩));clear hg2 hr2 R6 dc;go_wp2;go_ret;exact⟨rfl,vO.out,HH.out.Mo vO.out JR.out rfl qP.iF rfl⟩
end
end Go.Proofs.YtipljcmmokaokaaGreat
