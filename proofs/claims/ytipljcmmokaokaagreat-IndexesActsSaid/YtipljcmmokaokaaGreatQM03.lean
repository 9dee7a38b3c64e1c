import Derived.Test.YtipljcmmokaokaaGreatQM02
import Derived.StillTailTactics
import Derived.Deep.RegionLaw
import Derived.OrdersHeld
import Derived.StillTail
import Derived.Deep.RegionHeld
set_option linter.unusedVariables false
set_option linter.unusedSimpArgs false
set_option maxHeartbeats 40000000
namespace Go.Proofs.YtipljcmmokaokaaGreat
open Go.RowKit Go.Lib Go.Maps Go.WideMaps
set_option maxRecDepth 100000
theorem GD (p bn:Nat) (M:Nat→Prop) (m:List (J.B×J.B)) (C:Array Value) (key:ByteArray) (A:Option Addr) (n c:Nat) (val:List UInt8) (w:World) (hp:w.heap[p]? =some (.cells C 99 (0,0))) (hC:C[2]? =some (.map (some bn))) (hm:dp w M bn m)
  (hM:M bn) (hk:key.size≤maxLen) (hs:bT w M (.slice A n c) val) (hlen:m.length≤100000000):
  Calls Tryz.prog 119 #[.pointer (some ⟨p,0,none⟩), .agg #[.string key, .slice A n c, .bool false]] w λe w'=>e= .returned (.bool true)∧dp w' M bn (J.ins m key.data.toList val)∧w.grownBy w' (some bn):=by
 have hpl:p<w.heap.size:=(ai hp).1;have hcm:w.cell? ⟨p,2,none⟩=some (.map (some bn)):=(ah w p 2 _ _ _ hp).trans hC;have hkey:keyOf Tryz.prog 9 (.string key)=some (.string key.data.toList):=keyOf_string_mk Tryz.underlying9 hk;have HK:=ae hkey;have HM:=ae hm;have HS:=ae hs;have Ks:(w.alloc (.cells #[.string key, .slice A n c, .bool false] 163)).cell? ⟨p,2,none⟩=some (.map (some bn)):=(World.cell?_alloc_lt w _ ⟨p,2,none⟩ hpl).trans hcm;have hb0:=λj=>World.cell?_alloc_new w #[.string key, .slice A n c, .bool false] 163 j;clear hp hC hm hs hkey;go_enter Tryz.func119,Tryz.ntmps119;go_wp2_with fail;generalize hW:w.alloc (.cells #[.string key, .slice A n c, .bool false] 163)=W at Ks hb0⊢;have HW:=ae hW;clear hW;go_still_tail 8,(by kernel_rfl);have hm:=HM.out;obtain⟨D,hown,nM,nP,hval⟩:=HM.out;have hsz:Maps.size D≤100000000:=by rw[hm.size_eq hown nP];exact hlen
 obtain⟨d,hd⟩:=Gz HS.out;have hown2:W.drew.ownsMap Tryz.prog 9 dm bn (Maps.size D) D:=by rw[←HW.out];exact(hown.alloc _).drew
 have gN:=ae hown2;have aaD:=ae hown;have HH:=ae nP;have HV:=ae hval;clear hm hown nM nP hval hown2;go_wp2_with (at_mapUpdate;refine wpList_mapUpdate_own _ rfl _ _ _ 94 rfl 9 40 qi Tryz.underlying94 dm bn (Maps.size D) D rfl gN.out (by unfold maxLen;omega) _ _ _ rfl rfl HK.out d [] hd ?_);intro w3 dH hg3;have hb:Below w.heap.size w W.drew:=by rw[←HW.out];exact((ak _ _).alloc (aq _) _).drew
 have hg:w.grownBy w3 (some bn):=⟨hg3.os.trans hb.os,hg3.tape.trans hb.tape,hg3.output.trans hb.output,aw hb.size hg3.size,λk hk hn=>(hg3.block k (av hk hb.size) hn).trans (hb.block k hk)⟩;have hres:=dp.put (M':=M) HM.out aaD.out HH.out HV.out hd HS.out dH (Step.cC hg (λk e _=>by cases e;exact hM));have Tk:=ae hres;have HG:=ae hg;clear dH hg3 hb hg hres;go_wp2_with fail;go_ret;exact⟨rfl,Tk.out,HG.out⟩
theorem CR (p bn:Nat) (M:Nat→Prop) (m:List (J.B×J.B)) (C:Array Value) (key:ByteArray) (A:Option Addr) (n c:Nat) (w:World) (hp:w.heap[p]? =some (.cells C 99 (0,0))) (hC:C[2]? =some (.map (some bn))) (hm:dp w M bn m)
  (hM:M bn) (hk:key.size≤maxLen):
  Calls Tryz.prog 119 #[.pointer (some ⟨p,0,none⟩), .agg #[.string key, .slice A n c, .bool true]] w λe w'=>e= .returned (.bool (J.look m key.data.toList).isSome)∧dp w' M bn (J.del m key.data.toList)∧w.grownBy w' (some bn):=by
 have hpl:p<w.heap.size:=(ai hp).1;have hcm:w.cell? ⟨p,2,none⟩=some (.map (some bn)):=(ah w p 2 _ _ _ hp).trans hC;have hkey:keyOf Tryz.prog 9 (.string key)=some (.string key.data.toList):=keyOf_string_mk Tryz.underlying9 hk;have HK:=ae hkey;have HM:=ae hm;have Ks:(w.alloc (.cells #[.string key, .slice A n c, .bool true] 163)).cell? ⟨p,2,none⟩=some (.map (some bn)):=(World.cell?_alloc_lt w _ ⟨p,2,none⟩ hpl).trans hcm;have hb0:=λj=>World.cell?_alloc_new w #[.string key, .slice A n c, .bool true] 163 j;clear hp hC hm hkey;go_enter Tryz.func119,Tryz.ntmps119;go_wp2_with fail;obtain⟨D,hown,nM,nP,hval⟩:=HM.out;have hown1:=hown.alloc (.cells #[.string key, .slice A n c, .bool true] 163);have zl:Below w.heap.size w (w.alloc (.cells #[.string key, .slice A n c, .bool true] 163)):=(ak _ _).alloc (aq _) _;generalize w.alloc (.cells #[.string key, .slice A n c, .bool true] 163)=W at Ks hb0 hown1 zl⊢;have hlk:∃v,∀n,(Instr.lookup 94 (.map (some bn)) (.string key) true).run Tryz.prog (W.drewN n)= .ok (.tuple #[v, .bool (J.look m key.data.toList).isSome]) (W.drewN n):=by
  have hl:∀n,∃v ps,(Instr.lookup 94 (.map (some bn)) (.string key) true).run Tryz.prog (W.drewN n)= .ok (.tuple #[v, .bool (Maps.has D (.string key.data.toList))]) (W.drewN n)∧dm v=some (D.atKey (.string key.data.toList) .nil,ps):=λn=>
   World.ownsMap.look_ok (w:=W.drewN n) hown1 qi Tryz.underlying94 (Kq _) (show dm (.slice none 0 0)=some (.nil,[])from rfl) HK.out
  obtain⟨v,ps,_,hv⟩:=hl 0;refine⟨v,λn=> ?_⟩;obtain⟨v2,ps2,h2,hv2⟩:=hl n;rw[h2,rB hv2 hv,nP]
 obtain⟨v,hlk⟩:=hlk;have HOW:=ae hown;have oT:=ae hown1;have HH:=ae nP;have HV:=ae hval;have HB:=ae zl;clear hown hown1 nM nP hval zl;generalize hit:(J.look m key.data.toList).isSome=Zy at hlk;have HIT:=ae hit;clear hit;go_quiet (fail);have aaE:(W.drewN nq).cell? ⟨p,2,none⟩=some (.map (some bn)):=Ks;have hb2:∀j,(W.drewN nq).cell? ⟨w.heap.size,j,none⟩=(#[.string key, .slice A n c, .bool true]:Array Value)[j]? :=hb0;have gN:Hid ((W.drewN nq).ownsMap Tryz.prog 9 dm bn (Maps.size D) D):=oT.out;have br:Hid (Below w.heap.size w (W.drewN nq)):=⟨HB.out.os,HB.out.tape,HB.out.output,HB.out.size,HB.out.block⟩;generalize W.drewN nq=W2 at aaE hb2 gN br⊢;clear Ks hb0 hlk oT HB;go_wp2_with fail;go_still_tail 6,(by kernel_rfl);have kx:Hid (W2.drew.ownsMap Tryz.prog 9 dm bn (Maps.size D) D):=gN.out;go_wp2_with (at_delete;refine wpList_delete_own _ rfl _ _ 94 9 rfl 40 qi Tryz.underlying94 dm bn (Maps.size D) D rfl kx.out _ _ rfl HK.out ?_);intro w3 dH Kt;have hg3:=Kt.grown;have hb:Below w.heap.size w W2.drew:=br.out.drew;have hg:w.grownBy w3 (some bn):=⟨hg3.os.trans hb.os,hg3.tape.trans hb.tape,hg3.output.trans hb.output,aw hb.size hg3.size,λk hk hn=>(hg3.block k (av hk hb.size) hn).trans (hb.block k hk)⟩;have hres:=dp.del (M':=M) HM.out HOW.out HH.out HV.out dH (Step.cC hg (λk e _=>by cases e;exact hM));have Tk:=ae hres;have HG:=ae hg;clear dH hg3 hb hg hres Kt;go_wp2_with fail;go_ret;exact⟨by rw[HIT.out];rfl,Tk.out,HG.out⟩
theorem sj {ops:Array Oper} {o:Oper} {a:Act} {w:World} {K:Act→World→Prop} {Q:Exit→Act→World→Prop} {E:Prop} (hgd:o.guard=none) (s x:Operand) (ho:o.op= .call {callee:= .builtin .append,args:=#[s,x],argTypes:=#[95,95]})
  (v:Value) (n:Nat) (xs:List Value) (hs:a.eval s=v) (hown:w.ownsRow 0 163 3 v n xs) (ad:Addr) (m c:Nat) (news:List Value) (hx:a.eval x= .slice (some ad) m c) (hl:news.length=m*3) (hnews:∀j u,news[j]? =some u→w.cell? (ad.add j)=some u) (h1:∀u∈news,u.oneCell'=true)
  (hb:n+m≤100000000)
  (h:∀v' w',w'.ownsRow 0 163 3 v' (n+m) (xs++news)→w.grownBy w' v.ownBlock→(v'.ownBlock=v.ownBlock∨v'.ownBlock=some w.heap.size)→K (a.put o.dst v') w'):
  if Region.wanted o (yielded ops a.tmps)=true then Oper.wp Tryz.prog o a w K Q else E:=by
 obtain⟨i0,hi,hz0,hz1,hz2⟩:=info_parts Tryz.Wy;have hw:Region.wanted o (yielded ops a.tmps)=true:=by simp[Region.wanted,hgd]
 rw[if_pos hw];obtain⟨v',w',hrun,h2,h3,h4,h5⟩:=run_append_own_at (P:=Tryz.prog) w 0 95 o.type 163 i0 _ 3 48 Tryz.underlying95 hi hz0 hz1 hz2 rfl (by decide) v n xs hown ad m c news hl hnews h1 (by unfold maxLen;omega) (by omega) (Nat.zero_le _);unfold Oper.wp execOp;simp only[ho,resolve,invoke,builtin,Sem.run_bind,Sem.run_pure,Result.andThen_ok,List.map_toArray,List.map_cons,List.map_nil,hs,hx,hrun];exact h v' w' h2 h3 h5
theorem zT (p:Nat) (M:Nat→Prop) (s:J.St) (key:ByteArray) (A:Option Addr) (n c:Nat) (gone:Bool) (w:World) (h:bA w p M s) (hk:key.size≤1000) (hn:n≤10000)
  (GF:4194304 - s.size<3+key.size+if gone then 0 else 4+n):
  Calls Tryz.prog 102 #[.pointer (some ⟨p,0,none⟩), .agg #[.string key, .slice A n c, .bool gone]] w λe w'=>e= .returned (.int .i64 9)∧bA w' p M {s with spoilt:=true}∧Step M M w w':=by
 obtain⟨bn,bw,ch,wr,b0,b1,b2,b3,d0,d1,d2,d3,h1,h2,h3,h4⟩:=h;have H1:=ae h1;have H2:=ae h2;have H3:=ae h3;have H4:=ae h4;have hpl:p<w.heap.size:=(ai h1).1;have hsz:=h4.size;have hB:Below w.heap.size w (w.alloc (.cells #[.string key, .slice A n c, .bool gone] 163)):=(ak _ _).alloc (aq _) _;have hr1:=(hB.block p hpl).trans h1;have hc:=aj _ p hr1;have hf:=aC hr1;have hb0:=λj=>World.cell?_alloc_new w #[.string key, .slice A n c, .bool gone] 163 j;have HB:=ae hB;have eb:=ae hr1;clear h1 h2 h3 h4 hB hr1;go_enter Tryz.func102,Tryz.ntmps102;go_upto_region 1 with fail;generalize hW:w.alloc (.cells #[.string key, .slice A n c, .bool gone] 163)=W at hc hf hb0 HB eb⊢;clear hW;cases gone with
 |true=>
  have hb:(4194304:Int) - (s.size:Int)<3+(key.size:Int):=(by simp at GF;omega);clear GF;go_wp2_with fail;go_ret;have hg:=aA (World.grownBy.refl W (some p)) 5 (.bool true);have hrow:=aB eb.out 5 (.bool true);refine⟨rfl,⟨bn,bw,ch,wr,b0,b1,b2,b3,d0,d1,d2,d3,hrow,H2.out, ?_, ?_⟩,go_step H2.out HB.out hg (λ_ _=>Iff.rfl)⟩
  ·have P:=H3.out.go H1.out H2.out HB.out hg (λ_ _=>Iff.rfl);exact⟨P.now,P.mbn,P.was,P.chs,P.mch,P.wrs,P.f0,P.f1,P.f2,P.f3,P.e0,P.e1,P.e2,P.e3,P.dd⟩
  ·have o:=H4.out;exact⟨o.size,o.commits,o.gen,o.area,o.side,o.logged,o.writes,o.chs,o.encs,o.clo,o.a0,o.a1,o.h0,o.h1,o.now,o.was⟩
 |false=>
  have hb:(4194304:Int) - (s.size:Int)<3+(key.size:Int)+(4+(n:Int)):=(by simp at GF;omega);clear GF;go_wp2_with fail;go_ret;have hg:=aA (World.grownBy.refl W (some p)) 5 (.bool true);have hrow:=aB eb.out 5 (.bool true);refine⟨rfl,⟨bn,bw,ch,wr,b0,b1,b2,b3,d0,d1,d2,d3,hrow,H2.out, ?_, ?_⟩,go_step H2.out HB.out hg (λ_ _=>Iff.rfl)⟩
  ·have P:=H3.out.go H1.out H2.out HB.out hg (λ_ _=>Iff.rfl);exact⟨P.now,P.mbn,P.was,P.chs,P.mch,P.wrs,P.f0,P.f1,P.f2,P.f3,P.e0,P.e1,P.e2,P.e3,P.dd⟩
  ·have o:=H4.out;exact⟨o.size,o.commits,o.gen,o.area,o.side,o.logged,o.writes,o.chs,o.encs,o.clo,o.a0,o.a1,o.h0,o.h1,o.now,o.was⟩
theorem fj {w:World} {base:Nat} {e:TypeId} {size n g:Nat} {v:Value} {xs:List Value} {M:Nat→Prop} {m:List (J.B×J.B)} (h:w.ownsRow base e size v n xs) (hg:dp w M g m):v.ownBlock≠some g:=by
 obtain⟨D,⟨es,clock,hb,_⟩,_⟩:=hg;rcases h.2 with⟨rfl,_⟩|⟨g',cap,cur,rfl,_,hh,_⟩
 ·simp[Value.ownBlock]
 ·intro he;have:g'=g:=(by simpa [Value.ownBlock] using he);subst this;rw[hb]at hh;injection hh with hh;cases hh
theorem jX {w:World} {g:Nat} {v:Value} {l:List UInt8} {M:Nat→Prop} {m:List (J.B×J.B)} (h:fG w M v l) (hg:dp w M g m) (hM:M g):v.ownBlock≠some g:=by
 rcases h with⟨h1,_⟩|⟨rfl,_⟩|⟨b,o,rfl,_,hb,hy,_⟩
 ·exact fj h1 hg
 ·simp[Value.ownBlock]
 ·simp[Value.ownBlock];rintro rfl;exact hy hM
theorem eZ {w:World} {M:Nat→Prop} {v:Value} {l:List UInt8} (ha:fG w M v l) (k:Nat) (e:v.ownBlock=some k):k<w.heap.size:=by
 rcases ha with⟨h1,_⟩|⟨rfl,_⟩|⟨b,o,rfl,_,⟨hb,_⟩,_,_⟩
 ·exact(h1.lt k e).2
 ·cases e
 ·simp[Value.ownBlock]at e;omega
section
variable {w w' : World} {M M' : Nat → Prop} {s : J.St} {bn : Nat} {bw : Option Nat} {ch wr b0 b1 b2 b3 d0 d1 d2 d3 : Value}
theorem bX.map {m:List (J.B×J.B)} (h:bX w M s bn bw ch wr b0 b1 b2 b3 d0 d1 d2 d3) (hg:w.grownBy w' (some bn)) (hm:dp w' M bn m):bX w' M {s with now:=m} bn bw ch wr b0 b1 b2 b3 d0 d1 d2 d3:=by
 have hs:Step M M w w':=Step.cC hg (λk e _=>by cases e;exact h.mbn);have hb:∀k,k<w.heap.size→k≠bn→w'.heap[k]? =w.heap[k]? :=λk hk hn=>hg.block k hk (λe=>hn (by injection e));refine⟨hm,h.mbn, ?_,h.chs.keep hs h.mch (λk e=> ?_),h.mch,h.wrs.keep hs (λk e=> ?_) (λk e=> ?_),h.f0.step hs,h.f1.step hs,h.f2.step hs,h.f3.step hs,h.e0.step hs,h.e1.step hs,
  h.e2.keep hs (λk _ m=>m) (λk e _=>hb k (eZ h.e2 k e) (λe'=>jX h.e2 h.now h.mbn (e'▸e))),h.e3.keep hs (λk _ m=>m) (λk e _=>hb k (eZ h.e3 k e) (λe'=>jX h.e3 h.now h.mbn (e'▸e))),h.dd⟩
 ·cases bw with
  |none=>exact h.was
  |some b=>obtain⟨g1,g2,g3,g4⟩:=h.was;exact⟨g1,g2.step hs (hb b g2.lt g4),g3,g4⟩
 ·obtain⟨vs,_,h2,_⟩:=h.chs;exact hb k (h2.lt k e).2 (λe'=>fj h2 h.now (e'▸e))
 ·obtain⟨vs,_,_,h2,_⟩:=h.wrs;exact h2 k e
 ·obtain⟨vs,_,h2,_⟩:=h.wrs;exact hb k (h2.lt k e).2 (λe'=>fj h2 h.now (e'▸e))
theorem bX.Tl {L:List J.bZ} {v':Value} {n:Nat} (h:bX w M s bn bw ch wr b0 b1 b2 b3 d0 d1 d2 d3) (hs:Step M M' w w') (ez:∀k,M k→M' k) (hg:∀k,k<w.heap.size→ch.ownBlock≠some k→w'.heap[k]? =w.heap[k]?) (hc:en w' M' 0 v' L) (hmc:∀k,v'.ownBlock=some k→M' k):
  bX w' M' {s with changes:=L,size:=n} bn bw v' wr b0 b1 b2 b3 d0 d1 d2 d3:=by
 obtain⟨vs,g1,g2,g3⟩:=h.chs;have hrow:∀{e:TypeId} {v:Value} {base size n:Nat} {xs:List Value},e≠163→w.ownsRow base e size v n xs→∀k,v.ownBlock=some k→ch.ownBlock≠some k:=by
  intro e v base size n xs he hr k hk ea;rcases g2.2 with⟨rfl,_⟩|⟨g',cap,cur,rfl,_,hh,_⟩
  ·simp[Value.ownBlock]at ea
  ·have:g'=k:=(by simpa [Value.ownBlock] using ea);subst this;exact cT hr hh he hk
 have jW:∀{v:Value} {l:List UInt8},fG w M v l→∀k,v.ownBlock=some k→ch.ownBlock≠some k:=by
  intro v l ha k hk;rcases ha with⟨h1,_⟩|⟨rfl,_⟩|⟨b,o,rfl,_,hb,hy,_⟩
  ·exact hrow (by decide) h1 k hk
  ·cases hk
  ·simp[Value.ownBlock]at hk;subst hk;exactλe=>hy (h.mch _ e)
 refine⟨h.now.step hs (hg bn h.now.lt (fj g2 h.now)),ez _ h.mbn, ?_,hc,hmc,h.wrs.keep hs (λk e=> ?_) (λk e=> ?_),h.f0.step hs,h.f1.step hs,h.f2.step hs,h.f3.step hs,h.e0.step hs,h.e1.step hs,
  h.e2.keep hs (λk _ m=>ez k m) (λk e _=>hg k (eZ h.e2 k e) (jW h.e2 k e)),h.e3.keep hs (λk _ m=>ez k m) (λk e _=>hg k (eZ h.e3 k e) (jW h.e3 k e)),
  λk e2 e3 m=>h.dd k e2 e3 (hs.sub k (eZ h.e2 k e2) m)⟩
 ·cases bw with
  |none=>exact h.was
  |some b=>obtain⟨q1,q2,q3,q4⟩:=h.was;exact⟨q1,q2.step hs (hg b q2.lt (fj g2 q2)),ez _ q3,q4⟩
 ·obtain⟨vs,_,_,h2,_⟩:=h.wrs;exact ez _ (h2 k e)
 ·obtain⟨vs,_,h2,_⟩:=h.wrs;exact hg k (h2.lt k e).2 (hrow (by decide) h2 k e)
end
section
variable {w W w1 : World} {M : Nat → Prop} {s : J.St} {bn : Nat} {bw : Option Nat} {ch wr b0 b1 b2 b3 d0 d1 d2 d3 v1 x : Value} {p : Nat} {o : Obj} {C : Array Value}
theorem Fi {vs:List Value} {L:List J.bZ} {cg:J.bZ} (h:bX w M s bn bw ch wr b0 b1 b2 b3 d0 d1 d2 d3) (hL:s.changes=L) (hb:Below w.heap.size w W) (h1:vs.length=L.length) (h3:∀i (h:i<L.length) (h':i<vs.length),bT w (λk=>M k∨ch.ownBlock=some k) vs[i] L[i].val)
  (hx:bT w M x cg.val)
  (hown:w1.ownsRow 0 163 3 v1 (L.length+1) (cS L vs++[.string ⟨cg.key.toArray⟩,x, .bool cg.gone])) (hg:W.grownBy w1 ch.ownBlock) (hl:v1.ownBlock=ch.ownBlock∨v1.ownBlock=some W.heap.size) (n:Nat):
  bX w1 (λk=>M k∨v1.ownBlock=some k) {s with changes:=L++[cg],size:=n} bn bw v1 wr b0 b1 b2 b3 d0 d1 d2 d3∧Step M (λk=>M k∨v1.ownBlock=some k) w w1:=by
 subst hL;have afU:∀k,ch.ownBlock=some k→k<w.heap.size:=λk e=>by obtain⟨vs,_,h2,_⟩:=h.chs;exact(h2.lt k e).2
 have hMc:∀k,(M k∨ch.ownBlock=some k)↔M k:=λk=>⟨λe=>e.elim id (h.mch k), .inl⟩;have hst:Step M (λk=>M k∨v1.ownBlock=some k) w w1:=by
  refine⟨hg.os.trans hb.os,hg.tape.trans hb.tape,hg.output.trans hb.output,aw hb.size hg.size,λk hk hn=> ?_,λk hk e=> ?_⟩
  ·exact(hg.block k (av hk hb.size) (λe=>hn (h.mch k e.symm))).trans (hb.block k hk)
  ·rcases e with e|e
   ·exact e
   ·rcases hl with e'|e'
    ·exact h.mch k (e'▸e)
    ·rw[e']at e;injection e with e;have:=hb.size;omega
 refine⟨h.Tl hst (λk=> .inl) (λk hk hn=>(hg.block k (av hk hb.size) (λe=>hn e.symm)).trans (hb.block k hk)) ?_ (λk e=> .inr e),hst⟩;have hf:(λk=>M k∨ch.ownBlock=some k)=M:=funext λk=>propext (hMc k);have hr:en w1 M 0 v1 (s.changes++[cg]):=en.push h1 h3 hb hown hg hl (by rw[hf];exact hx.step (Step.aI hb));obtain⟨RQ,q1,q2,q3⟩:=hr;refine⟨RQ,q1,q2,λi hi hi'=> ?_⟩;have:=q3 i hi hi'
 rwa [show(λk=>(M k∨v1.ownBlock=some k)∨v1.ownBlock=some k)=(λk=>M k∨v1.ownBlock=some k)from funext λk=>propext ⟨λe=>e.elim id .inr, .inl⟩]
theorem add_mid (h:bX w1 M s bn bw ch wr b0 b1 b2 b3 d0 d1 d2 d3) (hp:w1.heap[p]? =some (.cells C 99 (0,0))) (hm:M p) (u v:Value):
  bX ((w1.setCell ⟨p,3,none⟩ u).setCell ⟨p,4,none⟩ v) M s bn bw ch wr b0 b1 b2 b3 d0 d1 d2 d3∧((w1.setCell ⟨p,3,none⟩ u).setCell ⟨p,4,none⟩ v).heap[p]? =some (.cells ((C.setIfInBounds 3 u).setIfInBounds 4 v) 99 (0,0))∧Step M M w1 ((w1.setCell ⟨p,3,none⟩ u).setCell ⟨p,4,none⟩ v):=by
 have hg:=aA (aA (World.grownBy.refl w1 (some p)) 3 u) 4 v;exact⟨h.own hp hm hg,aB (aB hp 3 u) 4 v,Step.cC hg (λk e _=>by cases e;exact hm)⟩
theorem Fj {w2 w3:World} {m:List (J.B×J.B)} (h:bX w2 M s bn bw ch wr b0 b1 b2 b3 d0 d1 d2 d3) (hp:w2.heap[p]? =some (.cells (bW s bn bw ch wr b0 b1 b2 b3 d0 d1 d2 d3) 99 (0,0))) (hm:M p)
  (hg:w2.grownBy w3 (some bn)) (hr:dp w3 M bn m) (jN:Ok {s with now:=m}):bA w3 p M {s with now:=m}∧Step M M w2 w3:=by
 have hpl:p<w2.heap.size:=(ai hp).1;have hne:p≠bn:=λe=>h.ne hp hm (.inl e);exact⟨⟨bn,bw,ch,wr,b0,b1,b2,b3,d0,d1,d2,d3,(hg.block p hpl (λe=>hne (by injection e))).trans hp,hm,h.map hg hr,jN⟩,Step.cC hg (λk e _=>by cases e;exact h.mbn)⟩
end
theorem wB (s:J.St) (bn:Nat) (bw:Option Nat) (ch v1 wr b0 b1 b2 b3 d0 d1 d2 d3:Value) (L:List J.bZ) (n:Nat) (z:Int) (hz:z=(n:Nat)):
  ((bW s bn bw ch wr b0 b1 b2 b3 d0 d1 d2 d3).setIfInBounds 3 v1).setIfInBounds 4 (.int .i64 z)=bW {s with changes:=L,size:=n} bn bw v1 wr b0 b1 b2 b3 d0 d1 d2 d3:=by subst hz;rfl
theorem Ku {s:J.St} {c:J.bZ} (o:Ok s) (ho:s.opn=true) (hb:c.len≤4194304 - s.size) (hg:c.gone=true→c.val=[]):Ok (J.apply {s with changes:=s.changes++[c],size:=s.size+c.len} c):=by
 have he:=o.encs ho;have hc:(J.encs (s.changes++[c])).length=(J.encs s.changes).length+c.len:=by rw[J.fX];simp[J.encs,J.xA]
 have ud:=o.now;have hch:=o.chs;have hsz:=o.size;have hl:3≤c.len:=by simp only[J.bZ.len];omega
 have _:=hg;refine⟨by show s.size+c.len≤_;omega,o.commits,o.gen,o.area,o.side,o.logged,o.writes,by show(s.changes++[c]).length≤s.size+c.len;simp;omega,λ_=>by show(J.encs (s.changes++[c])).length+13=s.size+c.len;omega,λe=>absurd (ho.symm.trans e) (by simp),o.a0,o.a1,o.h0,o.h1, ?_,o.was⟩;show(J.encs (J.values (if c.gone then J.del s.now c.key else J.ins s.now c.key c.val))).length≤8388608+s.logged+(J.encs (s.changes++[c])).length;cases hgo:c.gone with
 |true=>have:=J.zB s.now c.key;simp;omega
 |false=>
  have h1:=J.JR s.now c.key c.val;have h2:c.len=7+c.key.length+c.val.length:=(by simp only[J.bZ.len,hgo];simp;omega);simp;omega
end Go.Proofs.YtipljcmmokaokaaGreat
namespace Go.Proofs.YtipljcmmokaokaaGreat
open Go
section
variable {P : Program} {ops : Array Oper} {Q : Exit → Act → World → Prop} {md : Region.Mode} {S : World → Prop}
def wpAnyT (P:Program) (md:Region.Mode) (ops:Array Oper) (Q:Exit→Act→World→Prop) (S:World→Prop) (n:Nat):Nat→Array Bool→Act→World→Prop
 |0,listed,a,w=>Region.ready md ops listed=[]∧Q .normal a w
 |f+1,listed,a,w=>(Region.ready md ops listed=[]→Q .normal a w)∧
  ∀i∈Region.ready md ops listed,wpOp P ops Q i (λa' w'=>(i<n→S w')∧wpAnyT P md ops Q S n f (listed.setIfInBounds i true) a' w') a w
theorem mF {n:Nat}:∀(fuel:Nat) (listed:Array Bool) (a:Act) (w:World),wpAnyT P md ops Q S n fuel listed a w→wpAny P md ops Q fuel listed a w
 |0,_,_,_,h=>h
 |fuel+1,_,_,_,h=>⟨h.1,λi hi=>wpOp_mono (λa' w' h'=>mF fuel _ a' w' h'.2) (h.2 i hi)⟩
theorem qo {n i:Nat} {oi:Oper} {v:Value} (hi:ops[i]? =some oi) (ep:∀(j:Nat) (o:Oper) cs b,ops[j]? =some o→o.op≠ .select cs b)
  (hQ:∀c a w,Q (.panic c) (a.put oi.dst v) w→Q (.panic c) a w) (hs:Region.sinkB md ops n=true) (hc:Region.chainB md ops n=true) (hn:n<ops.size) (cd:i<n):
  ∀(fuel:Nat) (listed:Array Bool) (a:Act) (w:World),HeadInv md ops n listed→
   (∀j oj,ops[j]? =some oj→j≠i→listed.getD j true=false→(∀e∈oj.after,Region.binds md e=true→e.on≠i)→oi.apart ops oj=true)→
   i∈Region.ready md ops listed→YieldsIf P ops S oi v a→S w→
   wpAnyT P md ops Q S n fuel (listed.setIfInBounds i true) (a.put oi.dst v) w→wpAnyT P md ops Q S n (fuel+1) listed a w:=by
 intro fuel
 induction fuel with
 |zero=>
  intro listed a w _ _ hr hy hS H;refine⟨λh=>(by rw[h]at hr;cases hr),λj hj=> ?_⟩;by_cases lf:j=i
  ·subst lf;exact hy.wpOp hi hS ⟨λ_=>hS,H⟩
  ·have:=ready_mono hj lf;rw[H.1]at this;cases this
 |succ fuel ih=>
  intro listed a w inv nQ hr hy hS H;refine⟨λh=>(by rw[h]at hr;cases hr),λj hj=> ?_⟩;have Cn:j<n:=by
   rcases Nat.lt_or_ge j n with h|h
   ·exact h
   ·exact absurd hj (tail_waits hs hc hn inv _ i rfl cd (mem_ready.1 hr).1 j h)
  by_cases lf:j=i
  ·subst lf;exact hy.wpOp hi hS ⟨λ_=>hS,H⟩
  ·have h1:=H.2 j (ready_mono hj lf);obtain⟨zU,oj,CS,hall⟩:=mem_ready.1 hj;have Kv:∀e∈oj.after,Region.binds md e=true→e.on≠i:=λe he hb heq=>by
    have h1:=hall e he hb;rw[heq,getD_both (mem_ready.1 hr).1]at h1;cases h1
   have h2:=wpOp_putIf CS (nQ j oj CS lf zU Kv) (λcs b=>ep i oi cs b hi) (λcs b=>ep j oj cs b CS) hQ hy h1;have ue:∀k ok,ops[k]? =some ok→k≠i→(listed.setIfInBounds j true).getD k true=false→
     (∀e∈ok.after,Region.binds md e=true→e.on≠i)→oi.apart ops ok=true:=λk ok hk lg Jt hno=>by
    refine nQ k ok hk lg ?_ hno;by_cases hjk:j=k
    ·subst hjk;exact zU
    ·rw[getD_set_ne true hjk]at Jt;exact Jt
   refine wpOp_mono (λa' w' h3=>⟨λ_=>h3.2.1 Cn,ih (listed.setIfInBounds j true) a' w' (inv.set hj Cn) ue (ready_mono hr (Ne.symm lf)) h3.1 (h3.2.1 Cn) ?_⟩) h2;rw[Array.setIfInBounds_comm _ _ lf];exact h3.2.2
theorem fR {n:Nat}:∀(l:List Oper) (k:Nat) (listed:Array Bool) (a:Act) (w:World),n≤k→(∀j,l[j]? =ops[k+j]?)→
  Region.seqB md ops l.length k listed=true→wpList P ops Q l a w→wpAnyT P md ops Q S n l.length listed a w
 |[],_,_,_,_,_,_,hB,h=>⟨by simpa [Region.seqB] using hB,h⟩
 |o::l,k,listed,a,w,hnk,hl,hB,h=>by
  have h0:ops[k]? =some o:=(by simpa using (hl 0).symm);simp only[List.length_cons,Region.seqB,Bool.and_eq_true,decide_eq_true_eq]at hB;refine⟨λh1=>(by rw[hB.1]at h1;cases h1),λi hi=> ?_⟩;rw[hB.1]at hi;have hik:i=k:=(by simpa using hi);subst hik;have hw:wpOp P ops Q i (wpList P ops Q l) a w:=(by unfold wpOp;simp only[h0];exact h);exact wpOp_mono (λa' w' h'=>⟨λhlt=>absurd hlt (by omega),fR l (i+1) _ a' w' (by omega) (λj=>by have:=hl (j+1);simpa [Nat.add_assoc,Nat.add_comm 1 j] using this) hB.2 h'⟩) hw
def zV (md:Region.Mode) (ops:Array Oper) (n g:Nat):List (Nat×Bool)→Array Bool→Bool
 |[],listed=>Region.seqB md ops g n listed
 |(i,b)::t,listed=>decide (i<n)&&(Region.ready md ops listed).contains i&&(if b then decide (Region.ready md ops listed=[i])else Region.free md ops listed i)&&zV md ops n g t (listed.setIfInBounds i true)
def wpPlan (P:Program) (ops:Array Oper) (Q:Exit→Act→World→Prop) (S:World→Prop) (L:Act→World→Prop):List (Nat×Bool)→Act→World→Prop
 |[],a,w=>L a w
 |(i,false)::t,a,w=>∃o v,ops[i]? =some o∧YieldsIf P ops S o v a∧wpPlan P ops Q S L t (a.put o.dst v) w
 |(i,true)::t,a,w=>wpOp P ops Q i (λa' w'=>S w'∧wpPlan P ops Q S L t a' w') a w
theorem nR {n:Nat} {tl:List Oper} (ep:Region.noSelect ops=true) (hs:Region.sinkB md ops n=true) (hc:Region.chainB md ops n=true) (hn:n<ops.size) (hQ:∀c a d v w,Q (.panic c) (Act.put a d v) w→Q (.panic c) a w) (jO:∀j,tl[j]? =ops[n+j]?):
  ∀(dA:List (Nat×Bool)) (listed:Array Bool) (a:Act) (w:World),HeadInv md ops n listed→zV md ops n tl.length dA listed=true→S w→
   wpPlan P ops Q S (λa w=>wpList P ops Q tl a w) dA a w→wpAnyT P md ops Q S n (dA.length+tl.length) listed a w
 |[],listed,a,w,inv,hB,hS,h=>by
  rw[List.length_nil,Nat.zero_add];exact fR tl n listed a w (aq _) jO hB h
 |(i,false)::t,listed,a,w,inv,hB,hS,h=>by
  simp only[zV,Bool.and_eq_true,decide_eq_true_eq]at hB;obtain⟨⟨⟨cd,hr⟩,hf⟩,CT⟩:=hB;obtain⟨o,v,ho,hy,hk⟩:=h;have lL:i∈Region.ready md ops listed:=(by simpa using hr);rw[List.length_cons,show t.length+1+tl.length=(t.length+tl.length)+1 by omega];exact qo ho (Region.noSelect_spec ep) (λc a w h=>hQ c a _ _ w h) hs hc hn cd _ listed a w inv (Region.free_spec ho hf) lL hy hS
   (nR ep hs hc hn hQ jO t _ _ w (inv.set lL cd) CT hS hk)
 |(i,true)::t,listed,a,w,inv,hB,hS,h=>by
  simp only[zV,Bool.and_eq_true,decide_eq_true_eq,if_true]at hB;obtain⟨⟨⟨cd,hr⟩,bg⟩,CT⟩:=hB;have lL:i∈Region.ready md ops listed:=(by simpa using hr);rw[List.length_cons,show t.length+1+tl.length=(t.length+tl.length)+1 by omega];refine⟨λh1=>(by rw[h1]at lL;cases lL),λj hj=> ?_⟩;rw[bg]at hj;obtain rfl:j=i:=(by simpa using hj);exact wpOp_mono (λa' w' h'=>⟨λ_=>h'.1,nR ep hs hc hn hQ jO t _ a' w' (inv.set lL cd) CT h'.1 h'.2⟩) h
def wC (md:Region.Mode) (ops:Array Oper) (n:Nat) (dA:List (Nat×Bool)):Bool:=
 Region.noSelect ops&&decide (n<ops.size)&&decide (dA.length=n)&&Region.sinkB md ops n&&Region.chainB md ops n&&zV md ops n (ops.size - n) dA (Array.replicate ops.size false)
theorem bK {id:Nat} {a:Act} {w:World} {l:List Oper} (n:Nat) (dA:List (Nat×Bool)) (S:World→Prop) (hm:P.follows .mixedOrders=true) (hB:wC .any l.toArray n dA=true) (hQ:∀c a d v w,Q (.panic c) (Act.put a d v) w→Q (.panic c) a w) (hS:S w.drew)
  (h:wpPlan P l.toArray Q S (λa' w'=>wpList P l.toArray Q (l.drop n) a' w') dA a w.drew):(Code.region id l.toArray true).wp P Q a w:=by
 simp only[wC,Bool.and_eq_true,decide_eq_true_eq]at hB;obtain⟨⟨⟨⟨⟨ep,hn⟩,hpl⟩,hs⟩,hc⟩,hp⟩:=hB;have hn':n<l.length:=by simpa using hn
 have RR:(l.drop n).length=l.toArray.size - n:=by simp
 have CU:HeadInv .any l.toArray n (Array.replicate l.toArray.size false):=
  ⟨by simp,λj oj _ hl=>(by rw[getD_replicate_false]at hl;cases hl),λt _ ht=>getD_in (by simpa using ht) (getD_replicate_false _ _)⟩
 have H:=nR (md:= .any) (tl:=l.drop n) ep hs hc hn hQ (λj=>by simp[List.getElem?_drop]) dA _ a w.drew CU (by rw[RR];exact hp) hS h;refine wp_region_any hm ?_;have H2:=mF _ _ _ _ H;rw[RR,hpl,show n+(l.toArray.size - n)=l.toArray.size by omega]at H2;exact H2
theorem eB {L:Act→World→Prop} {i:Nat} {o:Oper} {t:List (Nat×Bool)} {a:Act} {w:World} {v:Value} (ho:ops[i]? =some o) (hg:o.guard=none) (hy:∀w',S w'→(execOp a.eval o).run P w'= .ok (.value v) w')
  (h:∀K:Act→Prop,(∀a,wpPlan P ops Q S L t a w→K a)→K (a.put o.dst v)):wpPlan P ops Q S L ((i,false)::t) a w:=
 ⟨o,v,ho, .inl ⟨by simp[Region.wanted,hg],hy⟩,h _ λ_ h=>h⟩
theorem fx {L:Act→World→Prop} {i:Nat} {o:Oper} {t:List (Nat×Bool)} {a:Act} {w:World} (ho:ops[i]? =some o)
  (h:∀K:Act→World→Prop,Shut (∀a w,S w→wpPlan P ops Q S L t a w→K a w)→if Region.wanted o (yielded ops a.tmps)=true then Oper.wp P o a w K Q else K (a.put o.dst undef) w):wpPlan P ops Q S L ((i,true)::t) a w:=
 wpOp_step ho (λK hK=>h K (λa w hS hW=>hK a w ⟨hS,hW⟩))
end
section
variable {P : Program} {ops : Array Oper} {Q : Exit → Act → World → Prop} {md : Region.Mode} {S1 S2 : World → Prop} {late wr : List Nat}
def Pc (S1 S2:World→Prop) (late:List Nat) (i:Nat):World→Prop:=λw=>S2 w∧(late.contains i=false→S1 w)
def zW (md:Region.Mode) (ops:Array Oper) (n:Nat) (late:List Nat) (j:Nat):Bool:=(List.range n).any λi=> !late.contains i&& !Region.waitsFor md ops j i
def wD (md:Region.Mode) (ops:Array Oper) (S1 S2:World→Prop) (late wr:List Nat) (n j:Nat) (w w':World):Prop:=
 if wr.contains j=true then S2 w'∧(zW md ops n late j=true→S1 w')else w'=w
def wpAnyU (P:Program) (md:Region.Mode) (ops:Array Oper) (Q:Exit→Act→World→Prop) (S1 S2:World→Prop) (late wr:List Nat) (n:Nat):Nat→Array Bool→Act→World→Prop
 |0,listed,a,w=>Region.ready md ops listed=[]∧Q .normal a w
 |f+1,listed,a,w=>(Region.ready md ops listed=[]→Q .normal a w)∧
  ∀i∈Region.ready md ops listed,wpOp P ops Q i (λa' w'=>(i<n→wD md ops S1 S2 late wr n i w w')∧wpAnyU P md ops Q S1 S2 late wr n f (listed.setIfInBounds i true) a' w') a w
theorem uf {n:Nat}:∀(fuel:Nat) (listed:Array Bool) (a:Act) (w:World),wpAnyU P md ops Q S1 S2 late wr n fuel listed a w→wpAny P md ops Q fuel listed a w
 |0,_,_,_,h=>h
 |fuel+1,_,_,_,h=>⟨h.1,λi hi=>wpOp_mono (λa' w' h'=>uf fuel _ a' w' h'.2) (h.2 i hi)⟩
theorem Pd {n i j:Nat} {listed:Array Bool} (cd:i<n) (hl:late.contains i=false) (hj:j∈Region.ready md ops listed) (hi:listed.getD i true=false):zW md ops n late j=true:=by
 refine List.any_eq_true.2 ⟨i,List.mem_range.2 cd, ?_⟩;rw[hl];cases hw:Region.waitsFor md ops j i with
 |false=>rfl
 |true=>
  exfalso;obtain⟨oj,CS,e,he,hb,Tm⟩:=Region.waitsFor_spec hw;obtain⟨_,o2,Kw,hall⟩:=mem_ready.1 hj;have:o2=oj:=Option.some.inj (Kw.symm.trans CS);subst this;have h2:=hall e he hb;rw[Tm,getD_both hi]at h2;cases h2
theorem xK {n i:Nat} {oi:Oper} {v:Value} (hi:ops[i]? =some oi) (ep:∀(j:Nat) (o:Oper) cs b,ops[j]? =some o→o.op≠ .select cs b)
  (hQ:∀c a w,Q (.panic c) (a.put oi.dst v) w→Q (.panic c) a w) (hs:Region.sinkB md ops n=true) (hc:Region.chainB md ops n=true) (hn:n<ops.size) (cd:i<n) (hwr:wr.contains i=false):
  ∀(fuel:Nat) (listed:Array Bool) (a:Act) (w:World),HeadInv md ops n listed→
   (∀j oj,ops[j]? =some oj→j≠i→listed.getD j true=false→(∀e∈oj.after,Region.binds md e=true→e.on≠i)→oi.apart ops oj=true)→
   i∈Region.ready md ops listed→YieldsIf P ops (Pc S1 S2 late i) oi v a→Pc S1 S2 late i w→
   wpAnyU P md ops Q S1 S2 late wr n fuel (listed.setIfInBounds i true) (a.put oi.dst v) w→wpAnyU P md ops Q S1 S2 late wr n (fuel+1) listed a w:=by
 have RS:∀w:World,wD md ops S1 S2 late wr n i w w:=λw=>by unfold wD;rw[if_neg (by rw[hwr];simp)]
 intro fuel
 induction fuel with
 |zero=>
  intro listed a w _ _ hr hy hS H;refine⟨λh=>(by rw[h]at hr;cases hr),λj hj=> ?_⟩;by_cases lf:j=i
  ·subst lf;exact hy.wpOp hi hS ⟨λ_=>RS _,H⟩
  ·have:=ready_mono hj lf;rw[H.1]at this;cases this
 |succ fuel ih=>
  intro listed a w inv nQ hr hy hS H;have Jt:=(mem_ready.1 hr).1;refine⟨λh=>(by rw[h]at hr;cases hr),λj hj=> ?_⟩;have Cn:j<n:=by
   rcases Nat.lt_or_ge j n with h|h
   ·exact h
   ·exact absurd hj (tail_waits hs hc hn inv _ i rfl cd Jt j h)
  by_cases lf:j=i
  ·subst lf;exact hy.wpOp hi hS ⟨λ_=>RS _,H⟩
  ·have h1:=H.2 j (ready_mono hj lf);obtain⟨zU,oj,CS,hall⟩:=mem_ready.1 hj;have Kv:∀e∈oj.after,Region.binds md e=true→e.on≠i:=λe he hb heq=>by
    have h1:=hall e he hb;rw[heq,getD_both Jt]at h1;cases h1
   have h2:=wpOp_putIf CS (nQ j oj CS lf zU Kv) (λcs b=>ep i oi cs b hi) (λcs b=>ep j oj cs b CS) hQ hy h1;have ue:∀k ok,ops[k]? =some ok→k≠i→(listed.setIfInBounds j true).getD k true=false→
     (∀e∈ok.after,Region.binds md e=true→e.on≠i)→oi.apart ops ok=true:=λk ok hk lg Jt hno=>by
    refine nQ k ok hk lg ?_ hno;by_cases hjk:j=k
    ·subst hjk;exact zU
    ·rw[getD_set_ne true hjk]at Jt;exact Jt
   have xE:∀w',wD md ops S1 S2 late wr n j w w'→Pc S1 S2 late i w':=by
    intro w' hp;unfold wD at hp;split at hp
    ·exact⟨hp.1,λhl=>hp.2 (Pd cd hl hj Jt)⟩
    ·rw[hp];exact hS
   refine wpOp_mono (λa' w' h3=>⟨λ_=>h3.2.1 Cn,ih (listed.setIfInBounds j true) a' w' (inv.set hj Cn) ue (ready_mono hr (Ne.symm lf)) h3.1 (xE w' (h3.2.1 Cn)) ?_⟩) h2;rw[Array.setIfInBounds_comm _ _ lf];exact h3.2.2
theorem pd {n:Nat}:∀(l:List Oper) (k:Nat) (listed:Array Bool) (a:Act) (w:World),n≤k→(∀j,l[j]? =ops[k+j]?)→
  Region.seqB md ops l.length k listed=true→wpList P ops Q l a w→wpAnyU P md ops Q S1 S2 late wr n l.length listed a w
 |[],_,_,_,_,_,_,hB,h=>⟨by simpa [Region.seqB] using hB,h⟩
 |o::l,k,listed,a,w,hnk,hl,hB,h=>by
  have h0:ops[k]? =some o:=(by simpa using (hl 0).symm);simp only[List.length_cons,Region.seqB,Bool.and_eq_true,decide_eq_true_eq]at hB;refine⟨λh1=>(by rw[hB.1]at h1;cases h1),λi hi=> ?_⟩;rw[hB.1]at hi;have hik:i=k:=(by simpa using hi);subst hik;have hw:wpOp P ops Q i (wpList P ops Q l) a w:=(by unfold wpOp;simp only[h0];exact h);exact wpOp_mono (λa' w' h'=>⟨λhlt=>absurd hlt (by omega),pd l (i+1) _ a' w' (by omega) (λj=>by have:=hl (j+1);simpa [Nat.add_assoc,Nat.add_comm 1 j] using this) hB.2 h'⟩) hw
def ug (md:Region.Mode) (ops:Array Oper) (late wr:List Nat) (n g:Nat):Bool→List (Nat×Bool)→Array Bool→Bool
 |_,[],listed=>Region.seqB md ops g n listed
 |c,(i,b)::t,listed=>decide (i<n)&&(Region.ready md ops listed).contains i&&(b==wr.contains i)&&
  (if b then decide (Region.ready md ops listed=[i])else Region.free md ops listed i&&(c||late.contains i))&&ug md ops late wr n g (if b then c&&zW md ops n late i else c) t (listed.setIfInBounds i true)
def wpPlanU (P:Program) (md:Region.Mode) (ops:Array Oper) (Q:Exit→Act→World→Prop) (S1 S2:World→Prop) (late:List Nat) (n:Nat) (L:Act→World→Prop):List (Nat×Bool)→Act→World→Prop
 |[],a,w=>L a w
 |(i,false)::t,a,w=>∃o v,ops[i]? =some o∧YieldsIf P ops (Pc S1 S2 late i) o v a∧wpPlanU P md ops Q S1 S2 late n L t (a.put o.dst v) w
 |(i,true)::t,a,w=>wpOp P ops Q i (λa' w'=>(S2 w'∧(zW md ops n late i=true→S1 w'))∧wpPlanU P md ops Q S1 S2 late n L t a' w') a w
theorem nS {n:Nat} {tl:List Oper} (ep:Region.noSelect ops=true) (hs:Region.sinkB md ops n=true) (hc:Region.chainB md ops n=true) (hn:n<ops.size) (hQ:∀c a d v w,Q (.panic c) (Act.put a d v) w→Q (.panic c) a w) (jO:∀j,tl[j]? =ops[n+j]?):
  ∀(dA:List (Nat×Bool)) (c:Bool) (listed:Array Bool) (a:Act) (w:World),HeadInv md ops n listed→ug md ops late wr n tl.length c dA listed=true→S2 w→(c=true→S1 w)→
   wpPlanU P md ops Q S1 S2 late n (λa w=>wpList P ops Q tl a w) dA a w→wpAnyU P md ops Q S1 S2 late wr n (dA.length+tl.length) listed a w
 |[],c,listed,a,w,inv,hB,hS,hS1,h=>by
  rw[List.length_nil,Nat.zero_add];exact pd tl n listed a w (aq _) jO hB h
 |(i,false)::t,c,listed,a,w,inv,hB,hS,hS1,h=>by
  simp only[ug,Bool.and_eq_true,decide_eq_true_eq,Bool.or_eq_true,Bool.false_eq_true,if_false,beq_iff_eq]at hB;obtain⟨⟨⟨⟨cd,hr⟩,hw⟩,hf,cq⟩,CT⟩:=hB;obtain⟨o,v,ho,hy,hk⟩:=h;have lL:i∈Region.ready md ops listed:=(by simpa using hr);rw[List.length_cons,show t.length+1+tl.length=(t.length+tl.length)+1 by omega];exact xK ho (Region.noSelect_spec ep) (λc a w h=>hQ c a _ _ w h) hs hc hn cd hw.symm _ listed a w inv (Region.free_spec ho hf) lL hy ⟨hS,λhl=>by
    rcases cq with h|h
    ·exact hS1 h
    ·rw[hl]at h;cases h⟩
   (nS ep hs hc hn hQ jO t c _ _ w (inv.set lL cd) CT hS hS1 hk)
 |(i,true)::t,c,listed,a,w,inv,hB,hS,hS1,h=>by
  simp only[ug,Bool.and_eq_true,decide_eq_true_eq,if_true,beq_iff_eq]at hB;obtain⟨⟨⟨⟨cd,hr⟩,hw⟩,bg⟩,CT⟩:=hB;have lL:i∈Region.ready md ops listed:=(by simpa using hr);rw[List.length_cons,show t.length+1+tl.length=(t.length+tl.length)+1 by omega];refine⟨λh1=>(by rw[h1]at lL;cases lL),λj hj=> ?_⟩;rw[bg]at hj;obtain rfl:j=i:=(by simpa using hj);exact wpOp_mono (λa' w' h'=>⟨λ_=>by unfold wD;rw[if_pos hw.symm];exact h'.1,nS ep hs hc hn hQ jO t _ _ a' w' (inv.set lL cd) CT h'.1.1 (λhb=>h'.1.2 (by simp only[Bool.and_eq_true]at hb;exact hb.2)) h'.2⟩) h
def uh (md:Region.Mode) (ops:Array Oper) (late wr:List Nat) (n:Nat) (dA:List (Nat×Bool)):Bool:=
 Region.noSelect ops&&decide (n<ops.size)&&decide (dA.length=n)&&Region.sinkB md ops n&&Region.chainB md ops n&&ug md ops late wr n (ops.size - n) true dA (Array.replicate ops.size false)
theorem mZ {id:Nat} {a:Act} {w:World} {l:List Oper} (n:Nat) (late wr:List Nat) (dA:List (Nat×Bool)) (S1 S2:World→Prop) (hm:P.follows .mixedOrders=true) (hB:uh .any l.toArray late wr n dA=true) (hQ:∀c a d v w,Q (.panic c) (Act.put a d v) w→Q (.panic c) a w) (hS1:S1 w.drew) (Kz:S2 w.drew)
  (h:wpPlanU P .any l.toArray Q S1 S2 late n (λa' w'=>wpList P l.toArray Q (l.drop n) a' w') dA a w.drew):(Code.region id l.toArray true).wp P Q a w:=by
 simp only[uh,Bool.and_eq_true,decide_eq_true_eq]at hB;obtain⟨⟨⟨⟨⟨ep,hn⟩,hpl⟩,hs⟩,hc⟩,hp⟩:=hB;have hn':n<l.length:=by simpa using hn
 have RR:(l.drop n).length=l.toArray.size - n:=by simp
 have CU:HeadInv .any l.toArray n (Array.replicate l.toArray.size false):=
  ⟨by simp,λj oj _ hl=>(by rw[getD_replicate_false]at hl;cases hl),λt _ ht=>getD_in (by simpa using ht) (getD_replicate_false _ _)⟩
 have H:=nS (md:= .any) (late:=late) (wr:=wr) (tl:=l.drop n) ep hs hc hn hQ (λj=>by simp[List.getElem?_drop]) dA true _ a w.drew CU (by rw[RR];exact hp) Kz (λ_=>hS1) h;refine wp_region_any hm ?_;have H2:=uf _ _ _ _ H;rw[RR,hpl,show n+(l.toArray.size - n)=l.toArray.size by omega]at H2;exact H2
theorem gV {n:Nat} {L:Act→World→Prop} {i:Nat} {o:Oper} {t:List (Nat×Bool)} {a:Act} {w:World} {v:Value} (ho:ops[i]? =some o) (hg:o.guard=none) (hl:late.contains i=false) (hy:∀w',S1 w'→(execOp a.eval o).run P w'= .ok (.value v) w')
  (h:∀K:Act→Prop,(∀a,wpPlanU P md ops Q S1 S2 late n L t a w→K a)→K (a.put o.dst v)):wpPlanU P md ops Q S1 S2 late n L ((i,false)::t) a w:=
 ⟨o,v,ho, .inl ⟨by simp[Region.wanted,hg],λw' hS=>hy w' (hS.2 hl)⟩,h _ λ_ h=>h⟩
theorem gW {n:Nat} {L:Act→World→Prop} {i:Nat} {o:Oper} {t:List (Nat×Bool)} {a:Act} {w:World} {v:Value} (ho:ops[i]? =some o) (hg:o.guard=none) (hy:∀w',S2 w'→(execOp a.eval o).run P w'= .ok (.value v) w')
  (h:∀K:Act→Prop,(∀a,wpPlanU P md ops Q S1 S2 late n L t a w→K a)→K (a.put o.dst v)):wpPlanU P md ops Q S1 S2 late n L ((i,false)::t) a w:=
 ⟨o,v,ho, .inl ⟨by simp[Region.wanted,hg],λw' hS=>hy w' hS.1⟩,h _ λ_ h=>h⟩
theorem fS {n:Nat} {L:Act→World→Prop} {i:Nat} {o:Oper} {t:List (Nat×Bool)} {a:Act} {w:World} (ho:ops[i]? =some o)
  (h:∀K:Act→World→Prop,Shut (∀a w,S1 w→S2 w→wpPlanU P md ops Q S1 S2 late n L t a w→K a w)→if Region.wanted o (yielded ops a.tmps)=true then Oper.wp P o a w K Q else K (a.put o.dst undef) w):wpPlanU P md ops Q S1 S2 late n L ((i,true)::t) a w:=
 wpOp_step ho (λK hK=>h K (λa w h1 h2 hW=>hK a w ⟨⟨h2,λ_=>h1⟩,hW⟩))
theorem qp {n:Nat} {L:Act→World→Prop} {i:Nat} {o:Oper} {t:List (Nat×Bool)} {a:Act} {w:World} (ho:ops[i]? =some o) (hw:zW md ops n late i=false)
  (h:∀K:Act→World→Prop,Shut (∀a w,S2 w→wpPlanU P md ops Q S1 S2 late n L t a w→K a w)→if Region.wanted o (yielded ops a.tmps)=true then Oper.wp P o a w K Q else K (a.put o.dst undef) w):wpPlanU P md ops Q S1 S2 late n L ((i,true)::t) a w:=
 wpOp_step ho (λK hK=>h K (λa w h2 hW=>hK a w ⟨⟨h2,λe=>by rw[hw]at e;cases e⟩,hW⟩))
end
end Go.Proofs.YtipljcmmokaokaaGreat
namespace Go.Proofs.YtipljcmmokaokaaGreat
open Go.RowKit Go.Lib
set_option maxRecDepth 100000
abbrev xL (h0 h1 a0 a1:Value):Value:= .agg #[h0,h1,a0,a1]
theorem rD (w:World) (a b c:Obj):(((w.alloc a).alloc b).alloc c).heap[w.heap.size+1+1]? =some c:=by
 have:=heap_alloc_new ((w.alloc a).alloc b) c
 simpa using this
theorem CV {w:World} {base n size:Nat} {e:TypeId} {v:Value} {xs:List Value} (h:w.ownsRow base e size v n xs):∃A m c,v= .slice A m c:=by
 rcases h.2 with⟨rfl,_⟩|⟨g',cap,cur,rfl,_⟩
 ·exact⟨_,_,_,rfl⟩
 ·exact⟨_,_,_,rfl⟩
theorem gh {w:World} {g:Nat} {t:TypeId} {cs:Array Value} (h:w.heap[g]? =some (.cells cs t (0,0))) (i:Nat) (u:Value):(w.setCell ⟨g,i,none⟩ u).heap[g]? =some (.cells (cs.setIfInBounds i u) t (0,0)):=by
 simp[World.setCell,Array.getElem?_modify,h]
theorem zX {w:World} {g g' i:Nat} {u:Value} {o:Obj} (h:w.heap[g]? =some o) (hne:g'≠g):(w.setCell ⟨g',i,none⟩ u).heap[g]? =some o:=by
 simp[World.setCell,Array.getElem?_modify,h,hne]
theorem Pe {w w':World} {base B n size:Nat} {e:TypeId} {v:Value} {xs:List Value} (h:w.ownsRow base e size v n xs) (hb:B≤base) (hk:∀k,base≤k→w'.heap[k]? =w.heap[k]?):w'.ownsRow B e size v n xs:=by
 refine⟨h.1, ?_⟩;rcases h.2 with h|⟨g,cap,cur,rfl,h1,h2,h3⟩
 ·exact .inl h
 ·exact .inr ⟨g,cap,cur,rfl,aw hb h1,(hk g h1).trans h2,h3⟩
section
variable {w5 : World} {g g' i : Nat} {x y0 y1 y2 y3 : Value}
theorem KA (j:Nat) (h:j≠g) (h':j≠g'):(((((w5.setCell ⟨g,i,none⟩ x).setCell ⟨g',0,none⟩ y0).setCell ⟨g',1,none⟩ y1).setCell ⟨g',2,none⟩ y2).setCell ⟨g',3,none⟩ y3).heap[j]? =w5.heap[j]? :=by
 rw[Below.heap_setCell _ _ _ _ (by exact h'),Below.heap_setCell _ _ _ _ (by exact h'),Below.heap_setCell _ _ _ _ (by exact h'),Below.heap_setCell _ _ _ _ (by exact h'),Below.heap_setCell _ _ _ _ (by exact h)]
theorem CW {w:World} (h:Below w.heap.size w w5):Below w.heap.size w (((((w5.setCell ⟨w.heap.size,i,none⟩ x).setCell ⟨w.heap.size+1+1,0,none⟩ y0).setCell ⟨w.heap.size+1+1,1,none⟩ y1).setCell ⟨w.heap.size+1+1,2,none⟩ y2).setCell ⟨w.heap.size+1+1,3,none⟩ y3):=
 ((((h.setCell (p:=⟨w.heap.size,i,none⟩) (aq _) x).setCell (p:=⟨w.heap.size+1+1,0,none⟩) (by show _≤w.heap.size+1+1;omega) y0).setCell (p:=⟨w.heap.size+1+1,1,none⟩) (by show _≤w.heap.size+1+1;omega) y1).setCell (p:=⟨w.heap.size+1+1,2,none⟩) (by show _≤w.heap.size+1+1;omega) y2).setCell (p:=⟨w.heap.size+1+1,3,none⟩) (by show _≤w.heap.size+1+1;omega) y3
end
def dE (w0:World) (I X R:Array Value) (w:World):Prop:=
 Below w0.heap.size w0 w∧w.heap[w0.heap.size]? =some (.cells I 80 (0,0))∧w.heap[w0.heap.size+1]? =some (.cells X 139 (0,0))∧w.heap[w0.heap.size+1+1]? =some (.cells R 80 (0,0))
theorem zY (w:World) (I X R:Array Value):dE w I X R (((w.alloc (.cells I 80)).alloc (.cells X 139)).alloc (.cells R 80)):=by
 refine⟨(((ak _ w).alloc (aq _) _).alloc (by simp) _).alloc (by simp;omega) _, ?_, ?_,rD _ _ _ _⟩
 ·rw[Below.heap_alloc _ _ _ (by simp;omega),Below.heap_alloc _ _ _ (by simp)];exact heap_alloc_new _ _
 ·rw[Below.heap_alloc _ _ _ (by simp)];have:=heap_alloc_new (w.alloc (.cells I 80)) (.cells X 139)
  simpa using this
section
variable {w0 w w' : World} {I X R : Array Value}
theorem dE.lt (h:dE w0 I X R w):w0.heap.size+1+1<w.heap.size:=(ai h.2.2.2).1
theorem dE.drew (h:dE w0 I X R w):dE w0 I X R w.drew:=⟨h.1.drew,h.2⟩
theorem dE.alloc (h:dE w0 I X R w) (o:Obj):dE w0 I X R (w.alloc o):=by
 have:=h.lt;exact⟨h.1.alloc h.1.size o,(Below.heap_alloc _ _ _ (by omega)).trans h.2.1,(Below.heap_alloc _ _ _ (by omega)).trans h.2.2.1,(Below.heap_alloc _ _ _ (by omega)).trans h.2.2.2⟩
theorem dE.below (h:dE w0 I X R w) (hb:Below w.heap.size w w'):dE w0 I X R w':=by
 have:=h.lt;exact⟨⟨hb.os.trans h.1.os,hb.tape.trans h.1.tape,hb.output.trans h.1.output,aw h.1.size hb.size,λk hk=>(hb.block k (by omega)).trans (h.1.block k hk)⟩,(hb.block _ (by omega)).trans h.2.1,(hb.block _ (by omega)).trans h.2.2.1,(hb.block _ (by omega)).trans h.2.2.2⟩
theorem dE.seen (h:dE w0 I X R w):Below w0.heap.size w0 w∧w0.heap.size+1+1<w.heap.size∧(∀j,w.cell? ⟨w0.heap.size,j,none⟩=I[j]?)∧(∀j,w.frozen? ⟨w0.heap.size,j,none⟩=false)∧(∀j,w.cell? ⟨w0.heap.size+1,j,none⟩=X[j]?)∧(∀j,w.cell? ⟨w0.heap.size+1+1,j,none⟩=R[j]?)∧∀j,w.frozen? ⟨w0.heap.size+1+1,j,none⟩=false:=
 ⟨h.1,h.lt,aj _ _ h.2.1,λj=>by simp[World.frozen?,h.2.1],aj _ _ h.2.2.1,aj _ _ h.2.2.2,λj=>by simp[World.frozen?,h.2.2.2]⟩
end
theorem zZ (A0 A1 A2 A3 A4:Option Addr) (n0 n1 n2 n3 n4 c0 c1 c2 c3 c4:Nat) (many:Int) (w:World):
  Calls Tryz.prog 79 #[xL (.slice A0 n0 c0) (.slice A1 n1 c1) (.slice A2 n2 c2) (.slice A3 n3 c3), .agg #[.int .u8 1, .int .i64 0, .slice A4 n4 c4], .int .i64 many] w λe w'=>e= .returned (xL (.slice A0 n0 c0) (.slice A1 n1 c1) (.slice none 0 0) (.slice A3 n3 c3))∧Below w.heap.size w w':=by
 go_enter Tryz.func79,Tryz.ntmps79;go_wp2_with fail;refine bodyPost_ret (results_cell_row rfl _ _ (w.heap.size+1+1) _ _ _ _ rfl (rD _ _ _ _) Tryz.underlying80 rfl (by kernel_rfl)) rfl ?_;exact⟨rfl,(((ak _ w).alloc (aq _) _).alloc (by simp) _).alloc (by simp;omega) _⟩
theorem Aa (A0 A1 A2 A3 A4:Option Addr) (n0 n1 n2 n3 n4 c0 c1 c2 c3 c4:Nat) (many:Int) (w:World):
  Calls Tryz.prog 79 #[xL (.slice A0 n0 c0) (.slice A1 n1 c1) (.slice A2 n2 c2) (.slice A3 n3 c3), .agg #[.int .u8 1, .int .i64 1, .slice A4 n4 c4], .int .i64 many] w λe w'=>e= .returned (xL (.slice A0 n0 c0) (.slice A1 n1 c1) (.slice A2 n2 c2) (.slice none 0 0))∧Below w.heap.size w w':=by
 go_enter Tryz.func79,Tryz.ntmps79;go_wp2_with fail;refine bodyPost_ret (results_cell_row rfl _ _ (w.heap.size+1+1) _ _ _ _ rfl (rD _ _ _ _) Tryz.underlying80 rfl (by kernel_rfl)) rfl ?_;exact⟨rfl,(((ak _ w).alloc (aq _) _).alloc (by simp) _).alloc (by simp;omega) _⟩
theorem KB:(∀(A0 A1 A2 A3:Option Addr) (n0 n1 n2 n3 n4 c0 c1 c2 c3 c4 b o:Nat) (many:Nat) (w:World) (M2 M4:Nat→Prop) (l2 l4:List UInt8) (h2:By w M2 A0 n0 l2) (hc2:n0≤c0) (h4:By w M4 (some ⟨b,o,none⟩) n4 l4) (hm:many≤n4) (hc:n4≤c4) (wE:n0≤40000000) (CX:n4≤40000000),Calls Tryz.prog 79 #[xL (.slice A0 n0 c0) (.slice A1 n1 c1) (.slice A2 n2 c2) (.slice A3 n3 c3), .agg #[.int .u8 2, .int .i64 0, .slice (some ⟨b,o,none⟩) n4 c4], .int .i64 many] w λe w'=>∃A' n' c',e= .returned (xL (.slice A' n' c') (.slice A1 n1 c1) (.slice A2 n2 c2) (.slice A3 n3 c3))∧w'.ownsRow w.heap.size 5 1 (.slice A' n' c') (l4.take many++l2.drop many).length (dx (l4.take many++l2.drop many))∧Below w.heap.size w w')∧(∀(A0 A1 A2 A3:Option Addr) (n0 n1 n2 n3 n4 c0 c1 c2 c3 c4 b o:Nat) (many:Nat) (w:World) (M2 M4:Nat→Prop) (l2 l4:List UInt8) (h2:By w M2 A1 n1 l2) (hc2:n1≤c1) (h4:By w M4 (some ⟨b,o,none⟩) n4 l4) (hm:many≤n4) (hc:n4≤c4) (wE:n1≤40000000) (CX:n4≤40000000),Calls Tryz.prog 79 #[xL (.slice A0 n0 c0) (.slice A1 n1 c1) (.slice A2 n2 c2) (.slice A3 n3 c3), .agg #[.int .u8 2, .int .i64 1, .slice (some ⟨b,o,none⟩) n4 c4], .int .i64 many] w λe w'=>∃A' n' c',e= .returned (xL (.slice A0 n0 c0) (.slice A' n' c') (.slice A2 n2 c2) (.slice A3 n3 c3))∧w'.ownsRow w.heap.size 5 1 (.slice A' n' c') (l4.take many++l2.drop many).length (dx (l4.take many++l2.drop many))∧Below w.heap.size w w'):=by
 refine⟨?z0, ?z1⟩
 case' z0=>intro A0 A1 A2 A3 n0 n1 n2 n3 n4 c0 c1 c2 c3 c4 b o many w M2 M4 l2 l4 h2 hc2 h4 hm hc wE CX
 case' z1=>(intro A0 A1 A2 A3 n0 n1 n2 n3 n4 c0 c1 c2 c3 c4 b o many w M2 M4 l2 l4 h2 hc2 h4 hm hc wE CX;have aH:=trivial)
 all_goals
  first
   |have aH:=aH
    obtain⟨kk,nT⟩:∃kk:Nat,kk=min many n1:=⟨_,rfl⟩
    skip
   |obtain⟨kk,nT⟩:∃kk:Nat,kk=min many n0:=⟨_,rfl⟩
  have RT:l2.drop many=l2.drop kk:=by
   first
    |have aH:=aH
     rcases Nat.le_total many n1 with h|h
     skip
    |rcases Nat.le_total many n0 with h|h
   ·rw[nT,Nat.min_eq_left h]
   ·rw[nT,Nat.min_eq_right h,List.drop_of_length_le (by rw[h2.1];exact h),List.drop_of_length_le (by rw[h2.1];omega)]
  first
   |have aH:=aH
    have H2:=ae (h2.drop (k:=kk) (cap:=c1) (by omega) hc2)
    skip
   |have H2:=ae (h2.drop (k:=kk) (cap:=c0) (by omega) hc2)
  have H4:=ae (h4.take hm);first
   |have aH:=aH
    have HL:=ae (show min many l4.length+(l2.length - kk)=many+(n1 - kk) by rw[h2.1,h4.1];omega)
    skip
   |have HL:=ae (show min many l4.length+(l2.length - kk)=many+(n0 - kk) by rw[h2.1,h4.1];omega)
  rw[RT];have hm1:(many:Int)≤(n4:Int):=(by omega);have GG:(many:Int)≤(c4:Int):=(by omega);have Fk:many≤40000000:=(by omega);first
   |have aH:=aH
    have aaG:(if n1<many then(n1:Int)else(many:Int))=(kk:Int):=(by split<;>omega);have fP:(kk:Int)≤(n1:Int):=(by omega);have hk2:kk≤n1:=by omega
    skip
   |have aaG:(if n0<many then(n0:Int)else(many:Int))=(kk:Int):=by split<;>omega
    have fP:(kk:Int)≤(n0:Int):=(by omega);have hk2:kk≤n0:=by omega
  clear h2 h4 nT RT;go_enter Tryz.func79,Tryz.ntmps79;go_upto_region 3 with fail;first
   |have aH:=aH
    have hst:=zY w #[.slice A0 n0 c0, .slice A1 n1 c1, .slice A2 n2 c2, .slice A3 n3 c3] #[.int .u8 2, .int .i64 1, .slice (some ⟨b,o,none⟩) n4 c4] #[.slice none 0 0, .slice none 0 0, .slice none 0 0, .slice none 0 0];generalize((w.alloc (.cells #[.slice A0 n0 c0, .slice A1 n1 c1, .slice A2 n2 c2, .slice A3 n3 c3] 80)).alloc (.cells #[.int .u8 2, .int .i64 1, .slice (some ⟨b,o,none⟩) n4 c4] 139)).alloc (.cells #[.slice none 0 0, .slice none 0 0, .slice none 0 0, .slice none 0 0] 80)=W at hst⊢
   |have hst:=zY w #[.slice A0 n0 c0, .slice A1 n1 c1, .slice A2 n2 c2, .slice A3 n3 c3] #[.int .u8 2, .int .i64 0, .slice (some ⟨b,o,none⟩) n4 c4] #[.slice none 0 0, .slice none 0 0, .slice none 0 0, .slice none 0 0]
    generalize((w.alloc (.cells #[.slice A0 n0 c0, .slice A1 n1 c1, .slice A2 n2 c2, .slice A3 n3 c3] 80)).alloc (.cells #[.int .u8 2, .int .i64 0, .slice (some ⟨b,o,none⟩) n4 c4] 139)).alloc (.cells #[.slice none 0 0, .slice none 0 0, .slice none 0 0, .slice none 0 0] 80)=W at hst⊢
  have HST:=ae hst;clear hst;first
   |have aH:=aH
    refine bK 15 [(0,false),(1,false),(2,false),(3,false),(4,false),(5,false),(6,false),(7,false),(8,false),(9,false),(10,false),(11,false),(14,false),(12,true),(13,true)] (λw'=>dE w #[.slice A0 n0 c0, .slice A1 n1 c1, .slice A2 n2 c2, .slice A3 n3 c3] #[.int .u8 2, .int .i64 1, .slice (some ⟨b,o,none⟩) n4 c4] #[.slice none 0 0, .slice none 0 0, .slice none 0 0, .slice none 0 0] w') (by kernel_rfl) (by kernel_rfl) (λc a d v w h=>by cases d<;>exact h) HST.out.drew ?_
   |refine bK 15 [(0,false),(1,false),(2,false),(3,false),(4,false),(5,false),(6,false),(7,false),(8,false),(9,false),(10,false),(11,false),(14,false),(12,true),(13,true)] (λw'=>dE w #[.slice A0 n0 c0, .slice A1 n1 c1, .slice A2 n2 c2, .slice A3 n3 c3] #[.int .u8 2, .int .i64 0, .slice (some ⟨b,o,none⟩) n4 c4] #[.slice none 0 0, .slice none 0 0, .slice none 0 0, .slice none 0 0] w') (by kernel_rfl) (by kernel_rfl) (λc a d v w h=>by cases d<;>exact h) HST.out.drew ?_
  repeat
   refine eB (v:= ?_) (by rfl) (by rfl) (λw' hS=> ?_) (λK hK=> ?_);rotate_left
   ·obtain⟨_,_,KD,aaH,aaI,aaJ,aaK⟩:=hS.seen;clear hS;go_simp;try with_reducible rfl
   go_simp;refine hK _ ?_;clear hK K
  refine fx (by rfl) (λK hK=> ?_);go_simp;refine hK.out _ _ (HST.out.drew.alloc _) ?_;clear hK K;refine fx (by rfl) (λK hK=> ?_);go_simp;first
   |have aH:=aH
    refine(si W.drew.heap.size (some ⟨b,o,none⟩) (if c1=kk then A1 else A1.map (·.add kk)) many (n1 - kk) c4 (c1 - kk) (l4.take many) (l2.drop kk) _ M4 M2 (by simp) (World.cell?_alloc_new _ _ _ _) (World.cell?_alloc_new _ _ _ _) (H4.out.step (Step.aI (HST.out.1.drew.alloc HST.out.1.size _))) (H2.out.step (Step.aI (HST.out.1.drew.alloc HST.out.1.size _))) (by omega) (by omega)).mono ?_
   |refine(si W.drew.heap.size (some ⟨b,o,none⟩) (if c0=kk then A0 else A0.map (·.add kk)) many (n0 - kk) c4 (c0 - kk) (l4.take many) (l2.drop kk) _ M4 M2 (by simp) (World.cell?_alloc_new _ _ _ _) (World.cell?_alloc_new _ _ _ _) (H4.out.step (Step.aI (HST.out.1.drew.alloc HST.out.1.size _))) (H2.out.step (Step.aI (HST.out.1.drew.alloc HST.out.1.size _))) (by omega) (by omega)).mono ?_
  rintro e w5 ⟨v5,rfl,oY,lh⟩;obtain⟨A5,m5,c5,rfl⟩:=CV oY;have zN:=ae ((HST.out.drew.alloc _).below lh);have oQ:=ae oY;clear oY lh;refine hK.out _ _ zN.out ?_;clear hK K;obtain⟨_,afX,KD,aaH,aaI,aaJ,aaK⟩:=zN.out.seen;show wpList _ _ _ _ _ _;go_wp2_with fail
  all_goals
   first
    |have aH:=aH
     have hrow:=gh (gh (gh (gh (zX (i:=1) (u:= .slice A5 m5 c5) zN.out.2.2.2 (show w.heap.size≠w.heap.size+1+1 by omega)) 0 (.slice A0 n0 c0)) 1 (.slice A5 m5 c5)) 2 (.slice A2 n2 c2)) 3 (.slice A3 n3 c3)
     skip
    |have hrow:=gh (gh (gh (gh (zX (i:=0) (u:= .slice A5 m5 c5) zN.out.2.2.2 (show w.heap.size≠w.heap.size+1+1 by omega)) 0 (.slice A5 m5 c5)) 1 (.slice A1 n1 c1)) 2 (.slice A2 n2 c2)) 3 (.slice A3 n3 c3)
   refine bodyPost_ret (results_cell_row rfl _ _ (w.heap.size+1+1) _ _ _ _ rfl hrow Tryz.underlying80 rfl (by kernel_rfl)) rfl ?_;refine⟨A5,m5,c5,rfl, ?_,CW zN.out.1⟩;rw[HL.out];exact Pe oQ.out (by have:=HST.out.lt;simp;omega) (λj hj=>KA j (by have:=HST.out.lt;simp at hj;omega) (by have:=HST.out.lt;simp at hj;omega))
abbrev CY:= @KB.1
abbrev CZ:= @KB.2
end Go.Proofs.YtipljcmmokaokaaGreat
namespace Go.Proofs.YtipljcmmokaokaaGreat
open Go
inductive Pl where
 |fin
 |rd (i:Nat) (p:Pl)
 |wr (i:Nat) (p:Pl)
 |two (i:Nat) (p:Pl) (j:Nat) (q:Pl)
def Pl.len:Pl→Nat
 | .fin=>0
 | .rd _ p=>p.len+1
 | .wr _ p=>p.len+1
 | .two _ p _ _=>p.len+1
section
variable {P : Program} {ops : Array Oper} {Q : Exit → Act → World → Prop} {md : Region.Mode} {S : World → Prop}
def Fl (md:Region.Mode) (ops:Array Oper) (n g:Nat):Pl→Array Bool→Bool
 | .fin,listed=>Region.seqB md ops g n listed
 | .rd i p,listed=>decide (i<n)&&(Region.ready md ops listed).contains i&&Region.free md ops listed i&&Fl md ops n g p (listed.setIfInBounds i true)
 | .wr i p,listed=>decide (i<n)&&decide (Region.ready md ops listed=[i])&&Fl md ops n g p (listed.setIfInBounds i true)
 | .two i p j q,listed=>decide (i<n)&&decide (j<n)&&decide (Region.ready md ops listed=[i,j])&&decide (p.len=q.len)&&Fl md ops n g p (listed.setIfInBounds i true)&&Fl md ops n g q (listed.setIfInBounds j true)
def Fm (md:Region.Mode) (ops:Array Oper) (n:Nat) (dA:Pl):Bool:=
 Region.noSelect ops&&decide (n<ops.size)&&decide (dA.len=n)&&Region.sinkB md ops n&&Region.chainB md ops n&&Fl md ops n (ops.size - n) dA (Array.replicate ops.size false)
end
section
variable {P : Program} {ops : Array Oper} {Q : Exit → Act → World → Prop} {md : Region.Mode} {S : World → Prop}
theorem eC {S T:World→Prop} (wF:∀w,T w→S w) {n:Nat}:∀(fuel:Nat) (listed:Array Bool) (a:Act) (w:World),wpAnyT P md ops Q T n fuel listed a w→wpAnyT P md ops Q S n fuel listed a w
 |0,_,_,_,h=>h
 |fuel+1,_,_,_,h=>⟨h.1,λi hi=>wpOp_mono (λa' w' h'=>⟨λhl=>wF _ (h'.1 hl),eC wF fuel _ a' w' h'.2⟩) (h.2 i hi)⟩
def wpPm (P:Program) (ops:Array Oper) (Q:Exit→Act→World→Prop) (L:Act→World→Prop):Pl→(World→Prop)→Act→World→Prop
 | .fin,_,a,w=>L a w
 | .rd i p,S,a,w=>∃o v,ops[i]? =some o∧YieldsIf P ops S o v a∧wpPm P ops Q L p S (a.put o.dst v) w
 | .wr i p,S,a,w=>wpOp P ops Q i (λa' w'=>∃T:World→Prop,(∀w,T w→S w)∧T w'∧wpPm P ops Q L p T a' w') a w
 | .two i p j q,S,a,w=>wpOp P ops Q i (λa' w'=>∃T:World→Prop,(∀w,T w→S w)∧T w'∧wpPm P ops Q L p T a' w') a w∧wpOp P ops Q j (λa' w'=>∃T:World→Prop,(∀w,T w→S w)∧T w'∧wpPm P ops Q L q T a' w') a w
theorem lM {n:Nat} {tl:List Oper} (ep:Region.noSelect ops=true) (hs:Region.sinkB md ops n=true) (hc:Region.chainB md ops n=true) (hn:n<ops.size) (hQ:∀c a d v w,Q (.panic c) (Act.put a d v) w→Q (.panic c) a w) (jO:∀j,tl[j]? =ops[n+j]?):
  ∀(dA:Pl) (S:World→Prop) (listed:Array Bool) (a:Act) (w:World),HeadInv md ops n listed→Fl md ops n tl.length dA listed=true→S w→
   wpPm P ops Q (λa w=>wpList P ops Q tl a w) dA S a w→wpAnyT P md ops Q S n (dA.len+tl.length) listed a w
 | .fin,S,listed,a,w,inv,hB,hS,h=>by
  rw[Pl.len,Nat.zero_add];exact fR tl n listed a w (aq _) jO hB h
 | .rd i t,S,listed,a,w,inv,hB,hS,h=>by
  simp only[Fl,Bool.and_eq_true,decide_eq_true_eq]at hB;obtain⟨⟨⟨cd,hr⟩,hf⟩,CT⟩:=hB;obtain⟨o,v,ho,hy,hk⟩:=h;have lL:i∈Region.ready md ops listed:=(by simpa using hr);rw[Pl.len,show t.len+1+tl.length=(t.len+tl.length)+1 by omega];exact qo ho (Region.noSelect_spec ep) (λc a w h=>hQ c a _ _ w h) hs hc hn cd _ listed a w inv (Region.free_spec ho hf) lL hy hS
   (lM ep hs hc hn hQ jO t S _ _ w (inv.set lL cd) CT hS hk)
 | .wr i t,S,listed,a,w,inv,hB,hS,h=>by
  simp only[Fl,Bool.and_eq_true,decide_eq_true_eq]at hB;obtain⟨⟨cd,bg⟩,CT⟩:=hB;have lL:i∈Region.ready md ops listed:=(by rw[bg];simp);rw[Pl.len,show t.len+1+tl.length=(t.len+tl.length)+1 by omega];refine⟨λh1=>(by rw[h1]at lL;cases lL),λj hj=> ?_⟩;rw[bg]at hj;obtain rfl:j=i:=(by simpa using hj);exact wpOp_mono (λa' w' ⟨T,wF,h1,h2⟩=>⟨λ_=>wF _ h1,eC wF _ _ _ _ (lM ep hs hc hn hQ jO t T _ a' w' (inv.set lL cd) CT h1 h2)⟩) h
 | .two i p j q,S,listed,a,w,inv,hB,hS,h=>by
  simp only[Fl,Bool.and_eq_true,decide_eq_true_eq]at hB;obtain⟨⟨⟨⟨⟨cd,Cn⟩,Da⟩,hlen⟩,Ad⟩,Ae⟩:=hB;have Tn:i∈Region.ready md ops listed:=(by rw[Da];simp);have hrj:j∈Region.ready md ops listed:=(by rw[Da];simp);rw[Pl.len,show p.len+1+tl.length=(p.len+tl.length)+1 by omega];refine⟨λh1=>(by rw[h1]at Tn;cases Tn),λk hk=> ?_⟩;rw[Da]at hk;rcases au hk with rfl|hk
  ·exact wpOp_mono (λa' w' ⟨T,wF,h1,h2⟩=>⟨λ_=>wF _ h1,eC wF _ _ _ _ (lM ep hs hc hn hQ jO p T _ a' w' (inv.set Tn cd) Ad h1 h2)⟩) h.1
  ·obtain rfl:k=j:=(by simpa using hk);rw[hlen];exact wpOp_mono (λa' w' ⟨T,wF,h1,h2⟩=>⟨λ_=>wF _ h1,eC wF _ _ _ _ (lM ep hs hc hn hQ jO q T _ a' w' (inv.set hrj Cn) Ae h1 h2)⟩) h.2
theorem aD {id:Nat} {a:Act} {w:World} {l:List Oper} (n:Nat) (dA:Pl) (S:World→Prop) (hm:P.follows .mixedOrders=true) (hB:Fm .any l.toArray n dA=true) (hQ:∀c a d v w,Q (.panic c) (Act.put a d v) w→Q (.panic c) a w) (hS:S w.drew)
  (h:wpPm P l.toArray Q (λa' w'=>wpList P l.toArray Q (l.drop n) a' w') dA S a w.drew):(Code.region id l.toArray true).wp P Q a w:=by
 simp only[Fm,Bool.and_eq_true,decide_eq_true_eq]at hB;obtain⟨⟨⟨⟨⟨ep,hn⟩,hpl⟩,hs⟩,hc⟩,hp⟩:=hB;have hn':n<l.length:=by simpa using hn
 have RR:(l.drop n).length=l.toArray.size - n:=by simp
 have CU:HeadInv .any l.toArray n (Array.replicate l.toArray.size false):=
  ⟨by simp,λj oj _ hl=>(by rw[getD_replicate_false]at hl;cases hl),λt _ ht=>getD_in (by simpa using ht) (getD_replicate_false _ _)⟩
 have H:=lM (md:= .any) (tl:=l.drop n) ep hs hc hn hQ (λj=>by simp[List.getElem?_drop]) dA S _ a w.drew CU (by rw[RR];exact hp) hS h;refine wp_region_any hm ?_;have H2:=mF _ _ _ _ H;rw[RR,hpl,show n+(l.toArray.size - n)=l.toArray.size by omega]at H2;exact H2
theorem az {L:Act→World→Prop} {i:Nat} {o:Oper} {t:Pl} {a:Act} {w:World} {v:Value} (ho:ops[i]? =some o) (hg:Region.wanted o (yielded ops a.tmps)=true) (hy:∀w',S w'→(execOp a.eval o).run P w'= .ok (.value v) w')
  (h:∀K:Act→Prop,(∀a,wpPm P ops Q L t S a w→K a)→K (a.put o.dst v)):wpPm P ops Q L (.rd i t) S a w:=
 ⟨o,v,ho, .inl ⟨hg,hy⟩,h _ λ_ h=>h⟩
theorem ay {L:Act→World→Prop} {i:Nat} {o:Oper} {t:Pl} {a:Act} {w:World} (ho:ops[i]? =some o) (hg:Region.wanted o (yielded ops a.tmps)=false)
  (h:∀K:Act→Prop,(∀a,wpPm P ops Q L t S a w→K a)→K (a.put o.dst undef)):wpPm P ops Q L (.rd i t) S a w:=
 ⟨o,undef,ho, .inr ⟨hg,rfl⟩,h _ λ_ h=>h⟩
theorem wpPm_write {L:Act→World→Prop} {i:Nat} {o:Oper} {t:Pl} {a:Act} {w:World} (ho:ops[i]? =some o)
  (h:∀K:Act→World→Prop,Shut (∀(a:Act) (w:World) (T:World→Prop),(∀w,T w→S w)→T w→wpPm P ops Q L t T a w→K a w)→if Region.wanted o (yielded ops a.tmps)=true then Oper.wp P o a w K Q else K (a.put o.dst undef) w):wpPm P ops Q L (.wr i t) S a w:=
 wpOp_step ho (λK hK=>h K (λa w T hT hS hW=>hK a w ⟨T,hT,hS,hW⟩))
theorem cO {L:Act→World→Prop} {i j:Nat} {oi oj:Oper} {p q:Pl} {a:Act} {w:World} (hi:ops[i]? =some oi) (hj:ops[j]? =some oj)
  (h1:∀K:Act→World→Prop,Shut (∀(a:Act) (w:World) (T:World→Prop),(∀w,T w→S w)→T w→wpPm P ops Q L p T a w→K a w)→if Region.wanted oi (yielded ops a.tmps)=true then Oper.wp P oi a w K Q else K (a.put oi.dst undef) w)
  (h2:∀K:Act→World→Prop,Shut (∀(a:Act) (w:World) (T:World→Prop),(∀w,T w→S w)→T w→wpPm P ops Q L q T a w→K a w)→if Region.wanted oj (yielded ops a.tmps)=true then Oper.wp P oj a w K Q else K (a.put oj.dst undef) w):wpPm P ops Q L (.two i p j q) S a w:=
 ⟨wpOp_step hi (λK hK=>h1 K (λa w T hT hS hW=>hK a w ⟨T,hT,hS,hW⟩)),wpOp_step hj (λK hK=>h2 K (λa w T hT hS hW=>hK a w ⟨T,hT,hS,hW⟩))⟩
end
end Go.Proofs.YtipljcmmokaokaaGreat
namespace Go.Proofs.YtipljcmmokaokaaGreat
open Go.RowKit Go.Lib Go.Maps Go.WideMaps Go.Sort
set_option maxRecDepth 100000
def vQ (w:World) (q:Nat):Prop:=(∀o (u v:UInt8),¬(w.cell? ⟨q,o,none⟩=some (u8 u)∧w.cell? ⟨q,o+1,none⟩=some (u8 v)))∧¬U8 w q
structure zm (M:Nat→Prop) (w w':World):Prop where
 os:w'.os=w.os
 tape:w'.tape=w.tape
 output:w'.output=w.output
 size:w.heap.size≤w'.heap.size
 keep:∀k,k<w.heap.size→M k→w'.heap[k]? =w.heap[k]?
 bytes:∀k,k<w.heap.size→¬vQ w k→w'.heap[k]? =w.heap[k]?
theorem zm.cC {M:Nat→Prop} {w w':World} {row:Option Nat} (hg:w.grownBy w' row) (h:∀q,row=some q→¬M q∧vQ w q):zm M w w':=
 ⟨hg.os,hg.tape,hg.output,hg.size,λk hk hm=>hg.block k hk (λe=>(h k e.symm).1 hm),λk hk hn=>hg.block k hk (λe=>hn (h k e.symm).2)⟩
section
variable {w w' : World} {M : Nat → Prop} {v : Value} {l : List UInt8}
theorem By.aaM {b o n:Nat} (h:By w M (some ⟨b,o,none⟩) n l) (hu:U8 w b) (ho:zm M w w'):By w' M (some ⟨b,o,none⟩) n l:=
 ⟨h.1,λhn=>by
  obtain⟨b',o',e,hb,hM,hc⟩:=h.2 hn;injection e with e;injection e with e1 e2 e3;subst e1 e2;have hk:w'.heap[b]? =w.heap[b]? :=ho.bytes b hb (λhno=>hno.2 hu);exact⟨b,o,rfl,av hb ho.size,hM,λj hj=>(World.cell?_of_block hk).trans (hc j hj)⟩⟩
theorem By.oth {A:Option Addr} {n:Nat} (h:By w M A n l) (h1:l.length≠1) (ho:zm M w w'):By w' M A n l:=
 ⟨h.1,λhn=>by
  obtain⟨b,o,e,hb,hM,hc⟩:=h.2 hn;have hl:=h.1;have hk:w'.heap[b]? =w.heap[b]? :=ho.bytes b hb (λhno=>hno.1 (o+0) _ _ ⟨hc 0 (by omega),hc 1 (by omega)⟩);exact⟨b,o,e,av hb ho.size,hM,λj hj=>(World.cell?_of_block hk).trans (hc j hj)⟩⟩
theorem bT.oth (h:bT w M v l) (ho:zm M w w'):bT w' M v l:=by
 rcases h with h|⟨b,o,e,h1,h2,hm,h3⟩
 ·exact .inl h
 ·exact .inr ⟨b,o,e,h1,h2.same ho.size (ho.bytes b h2.1 (λhn=>hn.2 h2)),hm,h3.aaM h2 ho⟩
theorem zm.sub {M2:Nat→Prop} (ho:zm M w w') (h:∀k,M2 k→M k):zm M2 w w':=⟨ho.os,ho.tape,ho.output,ho.size,λk hk hm=>ho.keep k hk (h k hm),ho.bytes⟩
theorem Sl.oth (h:Sl w M v l) (h1:l.length≠1) (ho:zm M w w'):Sl w' M v l:=by
 rcases h with h|⟨b,o,c,e,h0,h2,h3⟩
 ·exact .inl h
 ·exact .inr ⟨b,o,c,e,h0,av h2 ho.size,h3.oth h1 ho⟩
theorem dp.oth {b:Nat} {m:List (J.B×J.B)} (h:dp w M b m) (ho:zm M w w') (hb:M b):dp w' M b m:=by
 have hl:=h.lt;obtain⟨D,h1,h2,h3,h4⟩:=h;refine⟨D, ?_,h2,h3,λk l hk=> ?_⟩
 ·obtain⟨es,clock,g1,g2⟩:=h1;exact⟨es,clock,(ho.keep b hl hb).trans g1,g2⟩
 ·obtain⟨v,d,g1,g2,g3⟩:=h4 k l hk;exact⟨v,d,g1,g2,g3.oth ho⟩
theorem en.oth {base:Nat} {L:List J.bZ} (h:en w M base v L) (ho:zm M w w') (hm:∀k,v.ownBlock=some k→M k):en w' M base v L:=by
 obtain⟨vs,h1,h2,h3⟩:=h;refine⟨vs,h1,dW h2 (λk e=>ho.keep k (h2.lt k e).2 (hm k e)),λi hi hi'=> ?_⟩;have:=h3 i hi hi';exact this.oth ⟨ho.os,ho.tape,ho.output,ho.size,λk hk h=>ho.keep k hk (h.elim id (hm k)),ho.bytes⟩
theorem nN.oth {L:List J.Wr} (h:nN w M v L) (hl:∀x∈L,x.bs.length≠1) (ho:zm M w w'):nN w' M v L:=by
 obtain⟨vs,h1,h2,h3,h4⟩:=h;exact⟨vs,h1,dW h2 (λk e=>ho.keep k (h2.lt k e).2 (h3 k e)),h3,λi hi hi'=>(h4 i hi hi').oth (hl _ (List.getElem_mem hi)) ho⟩
theorem fG.oth (h:fG w M v l) (ho:zm M w w'):fG w' M v l:=by
 rcases h with⟨h1,h2⟩|h
 ·exact .inl ⟨dW h1 (λk e=>ho.keep k (h1.lt k e).2 (h2 k e)),h2⟩
 ·exact .inr (h.oth ho)
end
structure J.Two (s:J.St):Prop where
 wr:∀x∈s.writes,x.bs.length≠1
 h0:s.disk.h0.length≠1
 h1:s.disk.h1.length≠1
theorem bX.oth {w w':World} {M:Nat→Prop} {s:J.St} {bn:Nat} {bw:Option Nat} {ch wr b0 b1 b2 b3 d0 d1 d2 d3:Value} (h:bX w M s bn bw ch wr b0 b1 b2 b3 d0 d1 d2 d3) (ht:J.Two s) (ho:zm M w w'):bX w' M s bn bw ch wr b0 b1 b2 b3 d0 d1 d2 d3:=by
 refine⟨h.now.oth ho h.mbn,h.mbn, ?_,h.chs.oth ho h.mch,h.mch,h.wrs.oth ht.wr ho,h.f0.oth ho,h.f1.oth ho,h.f2.oth ho,h.f3.oth ho,h.e0.oth ht.h0 ho,h.e1.oth ht.h1 ho,h.e2.oth ho,h.e3.oth ho,h.dd⟩;cases bw with
 |none=>exact h.was
 |some b=>
  obtain⟨g1,g2,g3,g4⟩:=h.was;exact⟨g1,g2.oth ho g3,g3,g4⟩
theorem bA.oth {w w':World} {p:Nat} {M:Nat→Prop} {s:J.St} (h:bA w p M s) (ht:J.Two s) (ho:zm M w w'):bA w' p M s:=by
 obtain⟨bn,bw,ch,wr,b0,b1,b2,b3,d0,d1,d2,d3,h1,h2,h3,h4⟩:=h;exact⟨bn,bw,ch,wr,b0,b1,b2,b3,d0,d1,d2,d3,(ho.keep p (ai h1).1 h2).trans h1,h2,h3.oth ht ho,h4⟩
end Go.Proofs.YtipljcmmokaokaaGreat
