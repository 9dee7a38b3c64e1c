import Derived.Test.YtipljcmmokaokaaGreatQM02
import Derived.StillTailTactics
import Derived.Deep.RegionLaw
import Derived.OrdersHeld
import Derived.StillTail
import Derived.Deep.RegionHeld
set_option linter.unusedVariables false
set_option linter.unusedSimpArgs false
set_option maxHeartbeats 4000000
namespace Go.Proofs.YtipljcmmokaokaaGreat
open Go.RowKit Go.Lib Go.Maps Go.WideMaps
set_option maxRecDepth 100000
theorem DN (p bn:Nat) (M:Nat→Prop) (m:List (J.B×J.B)) (C:Array Value) (key:ByteArray) (A:Option Addr) (n c:Nat) (val:List UInt8) (w:World) (hp:w.heap[p]? =some (.cells C 99 (0,0))) (hC:C[2]? =some (.map (some bn))) (hm:dp w M bn m)
  (hM:M bn) (hk:key.size≤maxLen) (hs:cE w M (.slice A n c) val) (hlen:m.length≤100000000):
  Calls Tryz.prog 119 #[.pointer (some ⟨p,0,none⟩), .agg #[.string key, .slice A n c, .bool false]] w fun e w'=>e= .returned (.bool true)∧dp w' M bn (J.ins m key.data.toList val)∧w.grownBy w' (some bn):=by
 have hpl:p<w.heap.size:=(ah hp).1;have hcm:w.cell? ⟨p,2,none⟩=some (.map (some bn)):=(ag w p 2 _ _ _ hp).trans hC;have hkey:keyOf Tryz.prog 9 (.string key)=some (.string key.data.toList):=keyOf_string_mk Tryz.underlying9 hk;have HK:=aa hkey;have HM:=aa hm;have HS:=aa hs;have Gj:(w.alloc (.cells #[.string key, .slice A n c, .bool false] 163)).cell? ⟨p,2,none⟩=some (.map (some bn)):=(World.cell?_alloc_lt w _ ⟨p,2,none⟩ hpl).trans hcm;have hb0:=fun j=>World.cell?_alloc_new w #[.string key, .slice A n c, .bool false] 163 j;clear hp hC hm hs hkey;go_enter Tryz.func119,Tryz.ntmps119;go_wp2_with fail;generalize hW:w.alloc (.cells #[.string key, .slice A n c, .bool false] 163)=W at Gj hb0⊢;have HW:=aa hW;clear hW;go_still_tail 8,(by kernel_rfl);have hm:=HM.out;obtain⟨D,hown,nT,nW,hval⟩:=HM.out;have hsz:Maps.size D≤100000000:=by rw[hm.size_eq hown nW];exact hlen
 obtain⟨d,hd⟩:=DL HS.out;have hown2:W.drew.ownsMap Tryz.prog 9 dm bn (Maps.size D) D:=by rw[←HW.out];exact(hown.alloc _).drew
 have kx:=aa hown2;have Th:=aa hown;have HH:=aa nW;have HV:=aa hval;clear hm hown nT nW hval hown2;go_wp2_with (at_mapUpdate;refine wpList_mapUpdate_own _ rfl _ _ _ 94 rfl 9 40 p3 Tryz.underlying94 dm bn (Maps.size D) D rfl kx.out (by unfold maxLen;omega) _ _ _ rfl rfl HK.out d [] hd ?_);intro w3 cL hg3;have hb:Below w.heap.size w W.drew:=by rw[←HW.out];exact((ai _ _).alloc (aj _) _).drew
 have hg:w.grownBy w3 (some bn):=⟨hg3.os.trans hb.os,hg3.tape.trans hb.tape,hg3.output.trans hb.output,au hb.size hg3.size,fun k hk hn=>(hg3.block k (aq hk hb.size) hn).trans (hb.block k hk)⟩;have hres:=dp.put (M':=M) HM.out Th.out HH.out HV.out hd HS.out cL (Step.bY hg (fun k e _=>by cases e;exact hM));have M3:=aa hres;have HG:=aa hg;clear cL hg3 hb hg hres;go_wp2_with fail;go_ret;exact⟨rfl,M3.out,HG.out⟩
theorem AP (p bn:Nat) (M:Nat→Prop) (m:List (J.B×J.B)) (C:Array Value) (key:ByteArray) (A:Option Addr) (n c:Nat) (w:World) (hp:w.heap[p]? =some (.cells C 99 (0,0))) (hC:C[2]? =some (.map (some bn))) (hm:dp w M bn m)
  (hM:M bn) (hk:key.size≤maxLen):
  Calls Tryz.prog 119 #[.pointer (some ⟨p,0,none⟩), .agg #[.string key, .slice A n c, .bool true]] w fun e w'=>e= .returned (.bool (J.look m key.data.toList).isSome)∧dp w' M bn (J.del m key.data.toList)∧w.grownBy w' (some bn):=by
 have hpl:p<w.heap.size:=(ah hp).1;have hcm:w.cell? ⟨p,2,none⟩=some (.map (some bn)):=(ag w p 2 _ _ _ hp).trans hC;have hkey:keyOf Tryz.prog 9 (.string key)=some (.string key.data.toList):=keyOf_string_mk Tryz.underlying9 hk;have HK:=aa hkey;have HM:=aa hm;have Gj:(w.alloc (.cells #[.string key, .slice A n c, .bool true] 163)).cell? ⟨p,2,none⟩=some (.map (some bn)):=(World.cell?_alloc_lt w _ ⟨p,2,none⟩ hpl).trans hcm;have hb0:=fun j=>World.cell?_alloc_new w #[.string key, .slice A n c, .bool true] 163 j;clear hp hC hm hkey;go_enter Tryz.func119,Tryz.ntmps119;go_wp2_with fail;obtain⟨D,hown,nT,nW,hval⟩:=HM.out;have hown1:=hown.alloc (.cells #[.string key, .slice A n c, .bool true] 163);have AQ:Below w.heap.size w (w.alloc (.cells #[.string key, .slice A n c, .bool true] 163)):=(ai _ _).alloc (aj _) _;generalize w.alloc (.cells #[.string key, .slice A n c, .bool true] 163)=W at Gj hb0 hown1 AQ⊢;have hlk:∃v,∀n,(Instr.lookup 94 (.map (some bn)) (.string key) true).run Tryz.prog (W.drewN n)= .ok (.tuple #[v, .bool (J.look m key.data.toList).isSome]) (W.drewN n):=by
  have hl:∀n,∃v ps,(Instr.lookup 94 (.map (some bn)) (.string key) true).run Tryz.prog (W.drewN n)= .ok (.tuple #[v, .bool (Maps.has D (.string key.data.toList))]) (W.drewN n)∧dm v=some (D.atKey (.string key.data.toList) .nil,ps):=fun n=>
   World.ownsMap.look_ok (w:=W.drewN n) hown1 p3 Tryz.underlying94 (Gh _) (show dm (.slice none 0 0)=some (.nil,[])from rfl) HK.out
  obtain⟨v,ps,_,hv⟩:=hl 0;refine⟨v,fun n=> ?_⟩;obtain⟨v2,Zy,h2,hv2⟩:=hl n;rw[h2,q9 hv2 hv,nW]
 obtain⟨v,hlk⟩:=hlk;have HOW:=aa hown;have oU:=aa hown1;have HH:=aa nW;have HV:=aa hval;have HB:=aa AQ;clear hown hown1 nT nW hval AQ;generalize hit:(J.look m key.data.toList).isSome=Sc at hlk;have XW:=aa hit;clear hit;go_quiet (fail);have Ti:(W.drewN nq).cell? ⟨p,2,none⟩=some (.map (some bn)):=Gj;have hb2:∀j,(W.drewN nq).cell? ⟨w.heap.size,j,none⟩=(#[.string key, .slice A n c, .bool true]:Array Value)[j]? :=hb0;have kx:Hid ((W.drewN nq).ownsMap Tryz.prog 9 dm bn (Maps.size D) D):=oU.out;have bB:Hid (Below w.heap.size w (W.drewN nq)):=⟨HB.out.os,HB.out.tape,HB.out.output,HB.out.size,HB.out.block⟩;generalize W.drewN nq=W2 at Ti hb2 kx bB⊢;clear Gj hb0 hlk oU HB;go_wp2_with fail;go_still_tail 6,(by kernel_rfl);have lF:Hid (W2.drew.ownsMap Tryz.prog 9 dm bn (Maps.size D) D):=kx.out;go_wp2_with (at_delete;refine wpList_delete_own _ rfl _ _ 94 9 rfl 40 p3 Tryz.underlying94 dm bn (Maps.size D) D rfl lF.out _ _ rfl HK.out ?_);intro w3 cL Gk;have hg3:=Gk.grown;have hb:Below w.heap.size w W2.drew:=bB.out.drew;have hg:w.grownBy w3 (some bn):=⟨hg3.os.trans hb.os,hg3.tape.trans hb.tape,hg3.output.trans hb.output,au hb.size hg3.size,fun k hk hn=>(hg3.block k (aq hk hb.size) hn).trans (hb.block k hk)⟩;have hres:=dp.del (M':=M) HM.out HOW.out HH.out HV.out cL (Step.bY hg (fun k e _=>by cases e;exact hM));have M3:=aa hres;have HG:=aa hg;clear cL hg3 hb hg hres Gk;go_wp2_with fail;go_ret;exact⟨by rw[XW.out];rfl,M3.out,HG.out⟩
theorem rM {ops:Array Oper} {o:Oper} {a:Act} {w:World} {K:Act→World→Prop} {Q:Exit→Act→World→Prop} {E:Prop} (hgd:o.guard=none) (s x:Operand) (ho:o.op= .call {callee:= .builtin .append,args:=#[s,x],argTypes:=#[95,95]})
  (v:Value) (n:Nat) (xs:List Value) (hs:a.eval s=v) (hown:w.ownsRow 0 163 3 v n xs) (ad:Addr) (m c:Nat) (news:List Value) (hx:a.eval x= .slice (some ad) m c) (hl:news.length=m*3) (hnews:∀j u,news[j]? =some u→w.cell? (ad.add j)=some u) (h1:∀u∈news,u.oneCell'=true)
  (hb:n+m≤100000000)
  (h:∀v' w',w'.ownsRow 0 163 3 v' (n+m) (xs++news)→w.grownBy w' v.ownBlock→(v'.ownBlock=v.ownBlock∨v'.ownBlock=some w.heap.size)→K (a.put o.dst v') w'):
  if Region.wanted o (yielded ops a.tmps)=true then Oper.wp Tryz.prog o a w K Q else E:=by
 obtain⟨i0,hi,hz0,hz1,hz2⟩:=info_parts Tryz.Py;have hw:Region.wanted o (yielded ops a.tmps)=true:=by simp[Region.wanted,hgd]
 rw[if_pos hw];obtain⟨v',w',hrun,h2,h3,h4,h5⟩:=run_append_own_at (P:=Tryz.prog) w 0 95 o.type 163 i0 _ 3 48 Tryz.underlying95 hi hz0 hz1 hz2 rfl (by decide) v n xs hown ad m c news hl hnews h1 (by unfold maxLen;omega) (by omega) (Nat.zero_le _);unfold Oper.wp execOp;simp only[ho,resolve,invoke,builtin,Sem.run_bind,Sem.run_pure,Result.andThen_ok,List.map_toArray,List.map_cons,List.map_nil,hs,hx,hrun];exact h v' w' h2 h3 h5
theorem yu (p:Nat) (M:Nat→Prop) (s:J.St) (key:ByteArray) (A:Option Addr) (n c:Nat) (gone:Bool) (w:World) (h:bt w p M s) (hk:key.size≤1000) (hn:n≤10000)
  (uZ:4194304 - s.size<3+key.size+if gone then 0 else 4+n):
  Calls Tryz.prog 102 #[.pointer (some ⟨p,0,none⟩), .agg #[.string key, .slice A n c, .bool gone]] w fun e w'=>e= .returned (.int .i64 9)∧bt w' p M {s with spoilt:=true}∧Step M M w w':=by
 obtain⟨bn,bw,ch,wr,b0,b1,b2,b3,d0,d1,d2,d3,h1,h2,h3,h4⟩:=h;have H1:=aa h1;have H2:=aa h2;have H3:=aa h3;have H4:=aa h4;have hpl:p<w.heap.size:=(ah h1).1;have hsz:=h4.size;have hB:Below w.heap.size w (w.alloc (.cells #[.string key, .slice A n c, .bool gone] 163)):=(ai _ _).alloc (aj _) _;have hr1:=(hB.block p hpl).trans h1;have hc:=fun j=>ag _ p j _ _ _ hr1;have hf:=az hr1;have hb0:=fun j=>World.cell?_alloc_new w #[.string key, .slice A n c, .bool gone] 163 j;have HB:=aa hB;have eX:=aa hr1;clear h1 h2 h3 h4 hB hr1;go_enter Tryz.func102,Tryz.ntmps102;go_upto_region 1 with fail;generalize hW:w.alloc (.cells #[.string key, .slice A n c, .bool gone] 163)=W at hc hf hb0 HB eX⊢;clear hW;cases gone with
 |true=>
  have hb:(4194304:Int) - (s.size:Int)<3+(key.size:Int):=(by simp at uZ;omega);clear uZ;go_wp2_with fail;go_ret;have hg:=ay (World.grownBy.refl W (some p)) 5 (.bool true);have hrow:=aC eX.out 5 (.bool true);refine⟨rfl,⟨bn,bw,ch,wr,b0,b1,b2,b3,d0,d1,d2,d3,hrow,H2.out, ?_, ?_⟩,go_step H2.out HB.out hg (fun _ _=>Iff.rfl)⟩
  ·have P:=H3.out.go H1.out H2.out HB.out hg (fun _ _=>Iff.rfl);exact⟨P.now,P.mbn,P.was,P.chs,P.mch,P.wrs,P.f0,P.f1,P.f2,P.f3,P.e0,P.e1,P.e2,P.e3,P.dd⟩
  ·have o:=H4.out;exact⟨o.size,o.commits,o.gen,o.area,o.side,o.logged,o.writes,o.chs,o.encs,o.clo,o.a0,o.a1,o.h0,o.h1,o.now,o.was⟩
 |false=>
  have hb:(4194304:Int) - (s.size:Int)<3+(key.size:Int)+(4+(n:Int)):=(by simp at uZ;omega);clear uZ;go_wp2_with fail;go_ret;have hg:=ay (World.grownBy.refl W (some p)) 5 (.bool true);have hrow:=aC eX.out 5 (.bool true);refine⟨rfl,⟨bn,bw,ch,wr,b0,b1,b2,b3,d0,d1,d2,d3,hrow,H2.out, ?_, ?_⟩,go_step H2.out HB.out hg (fun _ _=>Iff.rfl)⟩
  ·have P:=H3.out.go H1.out H2.out HB.out hg (fun _ _=>Iff.rfl);exact⟨P.now,P.mbn,P.was,P.chs,P.mch,P.wrs,P.f0,P.f1,P.f2,P.f3,P.e0,P.e1,P.e2,P.e3,P.dd⟩
  ·have o:=H4.out;exact⟨o.size,o.commits,o.gen,o.area,o.side,o.logged,o.writes,o.chs,o.encs,o.clo,o.a0,o.a1,o.h0,o.h1,o.now,o.was⟩
theorem ja {w:World} {base:Nat} {e:TypeId} {size n g:Nat} {v:Value} {xs:List Value} {M:Nat→Prop} {m:List (J.B×J.B)} (h:w.ownsRow base e size v n xs) (hg:dp w M g m):v.ownBlock≠some g:=by
 obtain⟨D,⟨es,clock,hb,_⟩,_⟩:=hg;rcases h.2 with⟨rfl,_⟩|⟨g',cap,cur,rfl,_,hh,_⟩
 ·simp[Value.ownBlock]
 ·intro he;have:g'=g:=(by simpa [Value.ownBlock] using he);subst this;rw[hb]at hh;injection hh with hh;cases hh
theorem lM {w:World} {g:Nat} {v:Value} {l:List UInt8} {M:Nat→Prop} {m:List (J.B×J.B)} (h:jW w M v l) (hg:dp w M g m) (hM:M g):v.ownBlock≠some g:=by
 rcases h with⟨h1,_⟩|⟨rfl,_⟩|⟨b,o,rfl,_,hb,hy,_⟩
 ·exact ja h1 hg
 ·simp[Value.ownBlock]
 ·simp[Value.ownBlock];rintro rfl;exact hy hM
theorem iW {w:World} {M:Nat→Prop} {v:Value} {l:List UInt8} (ha:jW w M v l) (k:Nat) (e:v.ownBlock=some k):k<w.heap.size:=by
 rcases ha with⟨h1,_⟩|⟨rfl,_⟩|⟨b,o,rfl,_,⟨hb,_⟩,_,_⟩
 ·exact(h1.lt k e).2
 ·cases e
 ·simp[Value.ownBlock]at e;omega
section
variable {w w' : World} {M M' : Nat → Prop} {s : J.St} {bn : Nat} {bw : Option Nat} {ch wr b0 b1 b2 b3 d0 d1 d2 d3 : Value}
theorem bZ.map {m:List (J.B×J.B)} (h:bZ w M s bn bw ch wr b0 b1 b2 b3 d0 d1 d2 d3) (hg:w.grownBy w' (some bn)) (hm:dp w' M bn m):bZ w' M {s with now:=m} bn bw ch wr b0 b1 b2 b3 d0 d1 d2 d3:=by
 have hs:Step M M w w':=Step.bY hg (fun k e _=>by cases e;exact h.mbn);have hb:∀k,k<w.heap.size→k≠bn→w'.heap[k]? =w.heap[k]? :=fun k hk hn=>hg.block k hk (fun e=>hn (by injection e));refine⟨hm,h.mbn, ?_,h.chs.keep hs h.mch (fun k e=> ?_),h.mch,h.wrs.keep hs (fun k e=> ?_) (fun k e=> ?_),h.f0.step hs,h.f1.step hs,h.f2.step hs,h.f3.step hs,h.e0.step hs,h.e1.step hs,
  h.e2.keep hs (fun k _ m=>m) (fun k e _=>hb k (iW h.e2 k e) (fun e'=>lM h.e2 h.now h.mbn (e'▸e))),h.e3.keep hs (fun k _ m=>m) (fun k e _=>hb k (iW h.e3 k e) (fun e'=>lM h.e3 h.now h.mbn (e'▸e))),h.dd⟩
 ·cases bw with
  |none=>exact h.was
  |some b=>obtain⟨g1,g2,g3,g4⟩:=h.was;exact⟨g1,g2.step hs (hb b g2.lt g4),g3,g4⟩
 ·obtain⟨vs,_,h2,_⟩:=h.chs;exact hb k (h2.lt k e).2 (fun e'=>ja h2 h.now (e'▸e))
 ·obtain⟨vs,_,_,h2,_⟩:=h.wrs;exact h2 k e
 ·obtain⟨vs,_,h2,_⟩:=h.wrs;exact hb k (h2.lt k e).2 (fun e'=>ja h2 h.now (e'▸e))
theorem bZ.M6 {L:List J.cn} {v':Value} {n:Nat} (h:bZ w M s bn bw ch wr b0 b1 b2 b3 d0 d1 d2 d3) (hs:Step M M' w w') (ie:∀k,M k→M' k) (hg:∀k,k<w.heap.size→ch.ownBlock≠some k→w'.heap[k]? =w.heap[k]?) (hc:fS w' M' 0 v' L) (Tj:∀k,v'.ownBlock=some k→M' k):
  bZ w' M' {s with changes:=L,size:=n} bn bw v' wr b0 b1 b2 b3 d0 d1 d2 d3:=by
 obtain⟨vs,g1,g2,g3⟩:=h.chs;have hrow:∀{e:TypeId} {v:Value} {base size n:Nat} {xs:List Value},e≠163→w.ownsRow base e size v n xs→∀k,v.ownBlock=some k→ch.ownBlock≠some k:=by
  intro e v base size n xs he hr k hk gX;rcases g2.2 with⟨rfl,_⟩|⟨g',cap,cur,rfl,_,hh,_⟩
  ·simp[Value.ownBlock]at gX
  ·have:g'=k:=(by simpa [Value.ownBlock] using gX);subst this;exact bX hr hh he hk
 have lL:∀{v:Value} {l:List UInt8},jW w M v l→∀k,v.ownBlock=some k→ch.ownBlock≠some k:=by
  intro v l ha k hk;rcases ha with⟨h1,_⟩|⟨rfl,_⟩|⟨b,o,rfl,_,hb,hy,_⟩
  ·exact hrow (by decide) h1 k hk
  ·cases hk
  ·simp[Value.ownBlock]at hk;subst hk;exact fun e=>hy (h.mch _ e)
 refine⟨h.now.step hs (hg bn h.now.lt (ja g2 h.now)),ie _ h.mbn, ?_,hc,Tj,h.wrs.keep hs (fun k e=> ?_) (fun k e=> ?_),h.f0.step hs,h.f1.step hs,h.f2.step hs,h.f3.step hs,h.e0.step hs,h.e1.step hs,
  h.e2.keep hs (fun k _ m=>ie k m) (fun k e _=>hg k (iW h.e2 k e) (lL h.e2 k e)),h.e3.keep hs (fun k _ m=>ie k m) (fun k e _=>hg k (iW h.e3 k e) (lL h.e3 k e)),
  fun k e2 e3 m=>h.dd k e2 e3 (hs.sub k (iW h.e2 k e2) m)⟩
 ·cases bw with
  |none=>exact h.was
  |some b=>obtain⟨q1,q2,q3,q4⟩:=h.was;exact⟨q1,q2.step hs (hg b q2.lt (ja g2 q2)),ie _ q3,q4⟩
 ·obtain⟨vs,_,_,h2,_⟩:=h.wrs;exact ie _ (h2 k e)
 ·obtain⟨vs,_,h2,_⟩:=h.wrs;exact hg k (h2.lt k e).2 (hrow (by decide) h2 k e)
end
section
variable {w W w1 : World} {M : Nat → Prop} {s : J.St} {bn : Nat} {bw : Option Nat} {ch wr b0 b1 b2 b3 d0 d1 d2 d3 v1 x : Value} {p : Nat} {o : Obj} {C : Array Value}
theorem CU {vs:List Value} {L:List J.cn} {cg:J.cn} (h:bZ w M s bn bw ch wr b0 b1 b2 b3 d0 d1 d2 d3) (hL:s.changes=L) (hb:Below w.heap.size w W) (h1:vs.length=L.length) (h3:∀i (h:i<L.length) (h':i<vs.length),cE w (fun k=>M k∨ch.ownBlock=some k) vs[i] L[i].val)
  (hx:cE w M x cg.val)
  (hown:w1.ownsRow 0 163 3 v1 (L.length+1) (cV L vs++[.string ⟨cg.key.toArray⟩,x, .bool cg.gone])) (hg:W.grownBy w1 ch.ownBlock) (hl:v1.ownBlock=ch.ownBlock∨v1.ownBlock=some W.heap.size) (n:Nat):
  bZ w1 (fun k=>M k∨v1.ownBlock=some k) {s with changes:=L++[cg],size:=n} bn bw v1 wr b0 b1 b2 b3 d0 d1 d2 d3∧Step M (fun k=>M k∨v1.ownBlock=some k) w w1:=by
 subst hL;have XX:∀k,ch.ownBlock=some k→k<w.heap.size:=fun k e=>by obtain⟨vs,_,h2,_⟩:=h.chs;exact(h2.lt k e).2
 have XY:∀k,(M k∨ch.ownBlock=some k)↔M k:=fun k=>⟨fun e=>e.elim id (h.mch k), .inl⟩;have hst:Step M (fun k=>M k∨v1.ownBlock=some k) w w1:=by
  refine⟨hg.os.trans hb.os,hg.tape.trans hb.tape,hg.output.trans hb.output,au hb.size hg.size,fun k hk hn=> ?_,fun k hk e=> ?_⟩
  ·exact(hg.block k (aq hk hb.size) (fun e=>hn (h.mch k e.symm))).trans (hb.block k hk)
  ·rcases e with e|e
   ·exact e
   ·rcases hl with e'|e'
    ·exact h.mch k (e'▸e)
    ·rw[e']at e;injection e with e;have:=hb.size;omega
 refine⟨h.M6 hst (fun k=> .inl) (fun k hk hn=>(hg.block k (aq hk hb.size) (fun e=>hn e.symm)).trans (hb.block k hk)) ?_ (fun k e=> .inr e),hst⟩;have hf:(fun k=>M k∨ch.ownBlock=some k)=M:=funext fun k=>propext (XY k);have hr:fS w1 M 0 v1 (s.changes++[cg]):=fS.push h1 h3 hb hown hg hl (by rw[hf];exact hx.step (Step.aH hb));obtain⟨L5,q1,q2,q3⟩:=hr;refine⟨L5,q1,q2,fun i hi hi'=> ?_⟩;have:=q3 i hi hi'
 rwa [show(fun k=>(M k∨v1.ownBlock=some k)∨v1.ownBlock=some k)=(fun k=>M k∨v1.ownBlock=some k)from funext fun k=>propext ⟨fun e=>e.elim id .inr, .inl⟩]
theorem add_mid (h:bZ w1 M s bn bw ch wr b0 b1 b2 b3 d0 d1 d2 d3) (hp:w1.heap[p]? =some (.cells C 99 (0,0))) (hm:M p) (u v:Value):
  bZ ((w1.setCell ⟨p,3,none⟩ u).setCell ⟨p,4,none⟩ v) M s bn bw ch wr b0 b1 b2 b3 d0 d1 d2 d3∧((w1.setCell ⟨p,3,none⟩ u).setCell ⟨p,4,none⟩ v).heap[p]? =some (.cells ((C.setIfInBounds 3 u).setIfInBounds 4 v) 99 (0,0))∧Step M M w1 ((w1.setCell ⟨p,3,none⟩ u).setCell ⟨p,4,none⟩ v):=by
 have hg:=ay (ay (World.grownBy.refl w1 (some p)) 3 u) 4 v;exact⟨h.own hp hm hg,aC (aC hp 3 u) 4 v,Step.bY hg (fun k e _=>by cases e;exact hm)⟩
theorem CV {w2 w3:World} {m:List (J.B×J.B)} (h:bZ w2 M s bn bw ch wr b0 b1 b2 b3 d0 d1 d2 d3) (hp:w2.heap[p]? =some (.cells (bC s bn bw ch wr b0 b1 b2 b3 d0 d1 d2 d3) 99 (0,0))) (hm:M p)
  (hg:w2.grownBy w3 (some bn)) (hr:dp w3 M bn m) (lG:Ok {s with now:=m}):bt w3 p M {s with now:=m}∧Step M M w2 w3:=by
 have hpl:p<w2.heap.size:=(ah hp).1;have hne:p≠bn:=fun e=>h.ne hp hm (.inl e);exact⟨⟨bn,bw,ch,wr,b0,b1,b2,b3,d0,d1,d2,d3,(hg.block p hpl (fun e=>hne (by injection e))).trans hp,hm,h.map hg hr,lG⟩,Step.bY hg (fun k e _=>by cases e;exact h.mbn)⟩
end
theorem vJ (s:J.St) (bn:Nat) (bw:Option Nat) (ch v1 wr b0 b1 b2 b3 d0 d1 d2 d3:Value) (L:List J.cn) (n:Nat) (z:Int) (hz:z=(n:Nat)):
  ((bC s bn bw ch wr b0 b1 b2 b3 d0 d1 d2 d3).setIfInBounds 3 v1).setIfInBounds 4 (.int .i64 z)=bC {s with changes:=L,size:=n} bn bw v1 wr b0 b1 b2 b3 d0 d1 d2 d3:=by subst hz;rfl
theorem Gl {s:J.St} {c:J.cn} (o:Ok s) (ho:s.opn=true) (hb:c.len≤4194304 - s.size) (hg:c.gone=true→c.val=[]):Ok (J.apply {s with changes:=s.changes++[c],size:=s.size+c.len} c):=by
 have he:=o.encs ho;have hc:(J.encs (s.changes++[c])).length=(J.encs s.changes).length+c.len:=by rw[J.kE];simp[J.encs,J.wI]
 have tI:=o.now;have hch:=o.chs;have hsz:=o.size;have hl:3≤c.len:=by simp only[J.cn.len];omega
 have _:=hg;refine⟨by show s.size+c.len≤_;omega,o.commits,o.gen,o.area,o.side,o.logged,o.writes,by show(s.changes++[c]).length≤s.size+c.len;simp;omega,fun _=>by show(J.encs (s.changes++[c])).length+13=s.size+c.len;omega,fun e=>absurd (ho.symm.trans e) (by simp),o.a0,o.a1,o.h0,o.h1, ?_,o.was⟩;show(J.encs (J.values (if c.gone then J.del s.now c.key else J.ins s.now c.key c.val))).length≤8388608+s.logged+(J.encs (s.changes++[c])).length;cases hgo:c.gone with
 |true=>have:=J.x7 s.now c.key;simp;omega
 |false=>
  have h1:=J.FQ s.now c.key c.val;have h2:c.len=7+c.key.length+c.val.length:=(by simp only[J.cn.len,hgo];simp;omega);simp;omega
end Go.Proofs.YtipljcmmokaokaaGreat
namespace Go.Proofs.YtipljcmmokaokaaGreat
open Go
section
variable {P : Program} {ops : Array Oper} {Q : Exit → Act → World → Prop} {md : Region.Mode} {S : World → Prop}
def wpAnyT (P:Program) (md:Region.Mode) (ops:Array Oper) (Q:Exit→Act→World→Prop) (S:World→Prop) (n:Nat):Nat→Array Bool→Act→World→Prop
 |0,listed,a,w=>Region.ready md ops listed=[]∧Q .normal a w
 |f+1,listed,a,w=>(Region.ready md ops listed=[]→Q .normal a w)∧
  ∀i∈Region.ready md ops listed,wpOp P ops Q i (fun a' w'=>(i<n→S w')∧wpAnyT P md ops Q S n f (listed.setIfInBounds i true) a' w') a w
theorem mY {n:Nat}:∀(fuel:Nat) (listed:Array Bool) (a:Act) (w:World),wpAnyT P md ops Q S n fuel listed a w→wpAny P md ops Q fuel listed a w
 |0,_,_,_,h=>h
 |fuel+1,_,_,_,h=>⟨h.1,fun i hi=>wpOp_mono (fun a' w' h'=>mY fuel _ a' w' h'.2) (h.2 i hi)⟩
theorem p7 {n i:Nat} {oi:Oper} {v:Value} (hi:ops[i]? =some oi) (hZ:∀(j:Nat) (o:Oper) cs b,ops[j]? =some o→o.op≠ .select cs b)
  (hQ:∀c a w,Q (.panic c) (a.put oi.dst v) w→Q (.panic c) a w) (hs:Region.sinkB md ops n=true) (hc:Region.chainB md ops n=true) (hn:n<ops.size) (l9:i<n):
  ∀(fuel:Nat) (listed:Array Bool) (a:Act) (w:World),HeadInv md ops n listed→
   (∀j oj,ops[j]? =some oj→j≠i→listed.getD j true=false→(∀e∈oj.after,Region.binds md e=true→e.on≠i)→oi.apart ops oj=true)→
   i∈Region.ready md ops listed→YieldsIf P ops S oi v a→S w→
   wpAnyT P md ops Q S n fuel (listed.setIfInBounds i true) (a.put oi.dst v) w→wpAnyT P md ops Q S n (fuel+1) listed a w:=by
 intro fuel
 induction fuel with
 |zero=>
  intro listed a w _ _ hr hy hS H;refine⟨fun h=>(by rw[h]at hr;cases hr),fun j hj=> ?_⟩;by_cases nJ:j=i
  ·subst nJ;exact hy.wpOp hi hS ⟨fun _=>hS,H⟩
  ·have:=ready_mono hj nJ;rw[H.1]at this;cases this
 |succ fuel ih=>
  intro listed a w inv nX hr hy hS H;refine⟨fun h=>(by rw[h]at hr;cases hr),fun j hj=> ?_⟩;have z8:j<n:=by
   rcases Nat.lt_or_ge j n with h|h
   ·exact h
   ·exact absurd hj (tail_waits hs hc hn inv _ i rfl l9 (mem_ready.1 hr).1 j h)
  by_cases nJ:j=i
  ·subst nJ;exact hy.wpOp hi hS ⟨fun _=>hS,H⟩
  ·have h1:=H.2 j (ready_mono hj nJ);obtain⟨yv,oj,AR,hall⟩:=mem_ready.1 hj;have Gm:∀e∈oj.after,Region.binds md e=true→e.on≠i:=fun e he hb heq=>by
    have h1:=hall e he hb;rw[heq,getD_both (mem_ready.1 hr).1]at h1;cases h1
   have h2:=wpOp_putIf AR (nX j oj AR nJ yv Gm) (fun cs b=>hZ i oi cs b hi) (fun cs b=>hZ j oj cs b AR) hQ hy h1;have tJ:∀k ok,ops[k]? =some ok→k≠i→(listed.setIfInBounds j true).getD k true=false→
     (∀e∈ok.after,Region.binds md e=true→e.on≠i)→oi.apart ops ok=true:=fun k ok hk ma Fq hno=>by
    refine nX k ok hk ma ?_ hno;by_cases hjk:j=k
    ·subst hjk;exact yv
    ·rw[getD_set_ne true hjk]at Fq;exact Fq
   refine wpOp_mono (fun a' w' h3=>⟨fun _=>h3.2.1 z8,ih (listed.setIfInBounds j true) a' w' (inv.set hj z8) tJ (ready_mono hr (Ne.symm nJ)) h3.1 (h3.2.1 z8) ?_⟩) h2;rw[Array.setIfInBounds_comm _ _ nJ];exact h3.2.2
theorem kA {n:Nat}:∀(l:List Oper) (k:Nat) (listed:Array Bool) (a:Act) (w:World),n≤k→(∀j,l[j]? =ops[k+j]?)→
  Region.seqB md ops l.length k listed=true→wpList P ops Q l a w→wpAnyT P md ops Q S n l.length listed a w
 |[],_,_,_,_,_,_,hB,h=>⟨by simpa [Region.seqB] using hB,h⟩
 |o::l,k,listed,a,w,XZ,hl,hB,h=>by
  have h0:ops[k]? =some o:=(by simpa using (hl 0).symm);simp only[List.length_cons,Region.seqB,Bool.and_eq_true,decide_eq_true_eq]at hB;refine⟨fun h1=>(by rw[hB.1]at h1;cases h1),fun i hi=> ?_⟩;rw[hB.1]at hi;have hik:i=k:=(by simpa using hi);subst hik;have hw:wpOp P ops Q i (wpList P ops Q l) a w:=(by unfold wpOp;simp only[h0];exact h);exact wpOp_mono (fun a' w' h'=>⟨fun hlt=>absurd hlt (by omega),kA l (i+1) _ a' w' (by omega) (fun j=>by have:=hl (j+1);simpa [Nat.add_assoc,Nat.add_comm 1 j] using this) hB.2 h'⟩) hw
def yw (md:Region.Mode) (ops:Array Oper) (n g:Nat):List (Nat×Bool)→Array Bool→Bool
 |[],listed=>Region.seqB md ops g n listed
 |(i,b)::t,listed=>decide (i<n)&&(Region.ready md ops listed).contains i&&(if b then decide (Region.ready md ops listed=[i])else Region.free md ops listed i)&&yw md ops n g t (listed.setIfInBounds i true)
def wpPlan (P:Program) (ops:Array Oper) (Q:Exit→Act→World→Prop) (S:World→Prop) (L:Act→World→Prop):List (Nat×Bool)→Act→World→Prop
 |[],a,w=>L a w
 |(i,false)::t,a,w=>∃o v,ops[i]? =some o∧YieldsIf P ops S o v a∧wpPlan P ops Q S L t (a.put o.dst v) w
 |(i,true)::t,a,w=>wpOp P ops Q i (fun a' w'=>S w'∧wpPlan P ops Q S L t a' w') a w
theorem nY {n:Nat} {tl:List Oper} (hZ:Region.noSelect ops=true) (hs:Region.sinkB md ops n=true) (hc:Region.chainB md ops n=true) (hn:n<ops.size) (hQ:∀c a d v w,Q (.panic c) (Act.put a d v) w→Q (.panic c) a w) (p8:∀j,tl[j]? =ops[n+j]?):
  ∀(dI:List (Nat×Bool)) (listed:Array Bool) (a:Act) (w:World),HeadInv md ops n listed→yw md ops n tl.length dI listed=true→S w→
   wpPlan P ops Q S (fun a w=>wpList P ops Q tl a w) dI a w→wpAnyT P md ops Q S n (dI.length+tl.length) listed a w
 |[],listed,a,w,inv,hB,hS,h=>by
  rw[List.length_nil,Nat.zero_add];exact kA tl n listed a w (aj _) p8 hB h
 |(i,false)::t,listed,a,w,inv,hB,hS,h=>by
  simp only[yw,Bool.and_eq_true,decide_eq_true_eq]at hB;obtain⟨⟨⟨l9,hr⟩,hf⟩,AU⟩:=hB;obtain⟨o,v,ho,hy,hk⟩:=h;have mi:i∈Region.ready md ops listed:=(by simpa using hr);rw[List.length_cons,show t.length+1+tl.length=(t.length+tl.length)+1 by omega];exact p7 ho (Region.noSelect_spec hZ) (fun c a w h=>hQ c a _ _ w h) hs hc hn l9 _ listed a w inv (Region.free_spec ho hf) mi hy hS
   (nY hZ hs hc hn hQ p8 t _ _ w (inv.set mi l9) AU hS hk)
 |(i,true)::t,listed,a,w,inv,hB,hS,h=>by
  simp only[yw,Bool.and_eq_true,decide_eq_true_eq,if_true]at hB;obtain⟨⟨⟨l9,hr⟩,aN⟩,AU⟩:=hB;have mi:i∈Region.ready md ops listed:=(by simpa using hr);rw[List.length_cons,show t.length+1+tl.length=(t.length+tl.length)+1 by omega];refine⟨fun h1=>(by rw[h1]at mi;cases mi),fun j hj=> ?_⟩;rw[aN]at hj;obtain rfl:j=i:=(by simpa using hj);exact wpOp_mono (fun a' w' h'=>⟨fun _=>h'.1,nY hZ hs hc hn hQ p8 t _ a' w' (inv.set mi l9) AU h'.1 h'.2⟩) h
def vK (md:Region.Mode) (ops:Array Oper) (n:Nat) (dI:List (Nat×Bool)):Bool:=
 Region.noSelect ops&&decide (n<ops.size)&&decide (dI.length=n)&&Region.sinkB md ops n&&Region.chainB md ops n&&yw md ops n (ops.size - n) dI (Array.replicate ops.size false)
theorem aY {id:Nat} {a:Act} {w:World} {l:List Oper} (n:Nat) (dI:List (Nat×Bool)) (S:World→Prop) (hm:P.follows .mixedOrders=true) (hB:vK .any l.toArray n dI=true) (hQ:∀c a d v w,Q (.panic c) (Act.put a d v) w→Q (.panic c) a w) (hS:S w.drew)
  (h:wpPlan P l.toArray Q S (fun a' w'=>wpList P l.toArray Q (l.drop n) a' w') dI a w.drew):(Code.region id l.toArray true).wp P Q a w:=by
 simp only[vK,Bool.and_eq_true,decide_eq_true_eq]at hB;obtain⟨⟨⟨⟨⟨hZ,hn⟩,hpl⟩,hs⟩,hc⟩,hp⟩:=hB;have VE:n<l.length:=by simpa using hn
 have L6:(l.drop n).length=l.toArray.size - n:=by simp
 have AV:HeadInv .any l.toArray n (Array.replicate l.toArray.size false):=
  ⟨by simp,fun j oj _ hl=>(by rw[getD_replicate_false]at hl;cases hl),fun t _ ht=>getD_in (by simpa using ht) (getD_replicate_false _ _)⟩
 have H:=nY (md:= .any) (tl:=l.drop n) hZ hs hc hn hQ (fun j=>by simp[List.getElem?_drop]) dI _ a w.drew AV (by rw[L6];exact hp) hS h;refine wp_region_any hm ?_;have H2:=mY _ _ _ _ H;rw[L6,hpl,show n+(l.toArray.size - n)=l.toArray.size by omega]at H2;exact H2
theorem bM {L:Act→World→Prop} {i:Nat} {o:Oper} {t:List (Nat×Bool)} {a:Act} {w:World} {v:Value} (ho:ops[i]? =some o) (hg:o.guard=none) (hy:∀w',S w'→(execOp a.eval o).run P w'= .ok (.value v) w')
  (h:∀K:Act→Prop,(∀a,wpPlan P ops Q S L t a w→K a)→K (a.put o.dst v)):wpPlan P ops Q S L ((i,false)::t) a w:=
 ⟨o,v,ho, .inl ⟨by simp[Region.wanted,hg],hy⟩,h _ fun _ h=>h⟩
theorem cd {L:Act→World→Prop} {i:Nat} {o:Oper} {t:List (Nat×Bool)} {a:Act} {w:World} (ho:ops[i]? =some o)
  (h:∀K:Act→World→Prop,Shut (∀a w,S w→wpPlan P ops Q S L t a w→K a w)→if Region.wanted o (yielded ops a.tmps)=true then Oper.wp P o a w K Q else K (a.put o.dst undef) w):wpPlan P ops Q S L ((i,true)::t) a w:=
 wpOp_step ho (fun K hK=>h K (fun a w hS hW=>hK a w ⟨hS,hW⟩))
end
section
variable {P : Program} {ops : Array Oper} {Q : Exit → Act → World → Prop} {md : Region.Mode} {S1 S2 : World → Prop} {late wr : List Nat}
def J4 (S1 S2:World→Prop) (late:List Nat) (i:Nat):World→Prop:=fun w=>S2 w∧(late.contains i=false→S1 w)
def yx (md:Region.Mode) (ops:Array Oper) (n:Nat) (late:List Nat) (j:Nat):Bool:=(List.range n).any fun i=> !late.contains i&& !Region.waitsFor md ops j i
def vL (md:Region.Mode) (ops:Array Oper) (S1 S2:World→Prop) (late wr:List Nat) (n j:Nat) (w w':World):Prop:=
 if wr.contains j=true then S2 w'∧(yx md ops n late j=true→S1 w')else w'=w
def wpAnyU (P:Program) (md:Region.Mode) (ops:Array Oper) (Q:Exit→Act→World→Prop) (S1 S2:World→Prop) (late wr:List Nat) (n:Nat):Nat→Array Bool→Act→World→Prop
 |0,listed,a,w=>Region.ready md ops listed=[]∧Q .normal a w
 |f+1,listed,a,w=>(Region.ready md ops listed=[]→Q .normal a w)∧
  ∀i∈Region.ready md ops listed,wpOp P ops Q i (fun a' w'=>(i<n→vL md ops S1 S2 late wr n i w w')∧wpAnyU P md ops Q S1 S2 late wr n f (listed.setIfInBounds i true) a' w') a w
theorem tK {n:Nat}:∀(fuel:Nat) (listed:Array Bool) (a:Act) (w:World),wpAnyU P md ops Q S1 S2 late wr n fuel listed a w→wpAny P md ops Q fuel listed a w
 |0,_,_,_,h=>h
 |fuel+1,_,_,_,h=>⟨h.1,fun i hi=>wpOp_mono (fun a' w' h'=>tK fuel _ a' w' h'.2) (h.2 i hi)⟩
theorem J5 {n i j:Nat} {listed:Array Bool} (l9:i<n) (hl:late.contains i=false) (hj:j∈Region.ready md ops listed) (hi:listed.getD i true=false):yx md ops n late j=true:=by
 refine List.any_eq_true.2 ⟨i,List.mem_range.2 l9, ?_⟩;rw[hl];cases hw:Region.waitsFor md ops j i with
 |false=>rfl
 |true=>
  exfalso;obtain⟨oj,AR,e,he,hb,M7⟩:=Region.waitsFor_spec hw;obtain⟨_,o2,X0,hall⟩:=mem_ready.1 hj;have:o2=oj:=Option.some.inj (X0.symm.trans AR);subst this;have h2:=hall e he hb;rw[M7,getD_both hi]at h2;cases h2
theorem wR {n i:Nat} {oi:Oper} {v:Value} (hi:ops[i]? =some oi) (hZ:∀(j:Nat) (o:Oper) cs b,ops[j]? =some o→o.op≠ .select cs b)
  (hQ:∀c a w,Q (.panic c) (a.put oi.dst v) w→Q (.panic c) a w) (hs:Region.sinkB md ops n=true) (hc:Region.chainB md ops n=true) (hn:n<ops.size) (l9:i<n) (hwr:wr.contains i=false):
  ∀(fuel:Nat) (listed:Array Bool) (a:Act) (w:World),HeadInv md ops n listed→
   (∀j oj,ops[j]? =some oj→j≠i→listed.getD j true=false→(∀e∈oj.after,Region.binds md e=true→e.on≠i)→oi.apart ops oj=true)→
   i∈Region.ready md ops listed→YieldsIf P ops (J4 S1 S2 late i) oi v a→J4 S1 S2 late i w→
   wpAnyU P md ops Q S1 S2 late wr n fuel (listed.setIfInBounds i true) (a.put oi.dst v) w→wpAnyU P md ops Q S1 S2 late wr n (fuel+1) listed a w:=by
 have L8:∀w:World,vL md ops S1 S2 late wr n i w w:=fun w=>by unfold vL;rw[if_neg (by rw[hwr];simp)]
 intro fuel
 induction fuel with
 |zero=>
  intro listed a w _ _ hr hy hS H;refine⟨fun h=>(by rw[h]at hr;cases hr),fun j hj=> ?_⟩;by_cases nJ:j=i
  ·subst nJ;exact hy.wpOp hi hS ⟨fun _=>L8 _,H⟩
  ·have:=ready_mono hj nJ;rw[H.1]at this;cases this
 |succ fuel ih=>
  intro listed a w inv nX hr hy hS H;have Fq:=(mem_ready.1 hr).1;refine⟨fun h=>(by rw[h]at hr;cases hr),fun j hj=> ?_⟩;have z8:j<n:=by
   rcases Nat.lt_or_ge j n with h|h
   ·exact h
   ·exact absurd hj (tail_waits hs hc hn inv _ i rfl l9 Fq j h)
  by_cases nJ:j=i
  ·subst nJ;exact hy.wpOp hi hS ⟨fun _=>L8 _,H⟩
  ·have h1:=H.2 j (ready_mono hj nJ);obtain⟨yv,oj,AR,hall⟩:=mem_ready.1 hj;have Gm:∀e∈oj.after,Region.binds md e=true→e.on≠i:=fun e he hb heq=>by
    have h1:=hall e he hb;rw[heq,getD_both Fq]at h1;cases h1
   have h2:=wpOp_putIf AR (nX j oj AR nJ yv Gm) (fun cs b=>hZ i oi cs b hi) (fun cs b=>hZ j oj cs b AR) hQ hy h1;have tJ:∀k ok,ops[k]? =some ok→k≠i→(listed.setIfInBounds j true).getD k true=false→
     (∀e∈ok.after,Region.binds md e=true→e.on≠i)→oi.apart ops ok=true:=fun k ok hk ma Fq hno=>by
    refine nX k ok hk ma ?_ hno;by_cases hjk:j=k
    ·subst hjk;exact yv
    ·rw[getD_set_ne true hjk]at Fq;exact Fq
   have si:∀w',vL md ops S1 S2 late wr n j w w'→J4 S1 S2 late i w':=by
    intro w' hp;unfold vL at hp;split at hp
    ·exact⟨hp.1,fun hl=>hp.2 (J5 l9 hl hj Fq)⟩
    ·rw[hp];exact hS
   refine wpOp_mono (fun a' w' h3=>⟨fun _=>h3.2.1 z8,ih (listed.setIfInBounds j true) a' w' (inv.set hj z8) tJ (ready_mono hr (Ne.symm nJ)) h3.1 (si w' (h3.2.1 z8)) ?_⟩) h2;rw[Array.setIfInBounds_comm _ _ nJ];exact h3.2.2
theorem o6 {n:Nat}:∀(l:List Oper) (k:Nat) (listed:Array Bool) (a:Act) (w:World),n≤k→(∀j,l[j]? =ops[k+j]?)→
  Region.seqB md ops l.length k listed=true→wpList P ops Q l a w→wpAnyU P md ops Q S1 S2 late wr n l.length listed a w
 |[],_,_,_,_,_,_,hB,h=>⟨by simpa [Region.seqB] using hB,h⟩
 |o::l,k,listed,a,w,XZ,hl,hB,h=>by
  have h0:ops[k]? =some o:=(by simpa using (hl 0).symm);simp only[List.length_cons,Region.seqB,Bool.and_eq_true,decide_eq_true_eq]at hB;refine⟨fun h1=>(by rw[hB.1]at h1;cases h1),fun i hi=> ?_⟩;rw[hB.1]at hi;have hik:i=k:=(by simpa using hi);subst hik;have hw:wpOp P ops Q i (wpList P ops Q l) a w:=(by unfold wpOp;simp only[h0];exact h);exact wpOp_mono (fun a' w' h'=>⟨fun hlt=>absurd hlt (by omega),o6 l (i+1) _ a' w' (by omega) (fun j=>by have:=hl (j+1);simpa [Nat.add_assoc,Nat.add_comm 1 j] using this) hB.2 h'⟩) hw
def tL (md:Region.Mode) (ops:Array Oper) (late wr:List Nat) (n g:Nat):Bool→List (Nat×Bool)→Array Bool→Bool
 |_,[],listed=>Region.seqB md ops g n listed
 |c,(i,b)::t,listed=>decide (i<n)&&(Region.ready md ops listed).contains i&&(b==wr.contains i)&&
  (if b then decide (Region.ready md ops listed=[i])else Region.free md ops listed i&&(c||late.contains i))&&tL md ops late wr n g (if b then c&&yx md ops n late i else c) t (listed.setIfInBounds i true)
def wpPlanU (P:Program) (md:Region.Mode) (ops:Array Oper) (Q:Exit→Act→World→Prop) (S1 S2:World→Prop) (late:List Nat) (n:Nat) (L:Act→World→Prop):List (Nat×Bool)→Act→World→Prop
 |[],a,w=>L a w
 |(i,false)::t,a,w=>∃o v,ops[i]? =some o∧YieldsIf P ops (J4 S1 S2 late i) o v a∧wpPlanU P md ops Q S1 S2 late n L t (a.put o.dst v) w
 |(i,true)::t,a,w=>wpOp P ops Q i (fun a' w'=>(S2 w'∧(yx md ops n late i=true→S1 w'))∧wpPlanU P md ops Q S1 S2 late n L t a' w') a w
theorem nZ {n:Nat} {tl:List Oper} (hZ:Region.noSelect ops=true) (hs:Region.sinkB md ops n=true) (hc:Region.chainB md ops n=true) (hn:n<ops.size) (hQ:∀c a d v w,Q (.panic c) (Act.put a d v) w→Q (.panic c) a w) (p8:∀j,tl[j]? =ops[n+j]?):
  ∀(dI:List (Nat×Bool)) (c:Bool) (listed:Array Bool) (a:Act) (w:World),HeadInv md ops n listed→tL md ops late wr n tl.length c dI listed=true→S2 w→(c=true→S1 w)→
   wpPlanU P md ops Q S1 S2 late n (fun a w=>wpList P ops Q tl a w) dI a w→wpAnyU P md ops Q S1 S2 late wr n (dI.length+tl.length) listed a w
 |[],c,listed,a,w,inv,hB,hS,hS1,h=>by
  rw[List.length_nil,Nat.zero_add];exact o6 tl n listed a w (aj _) p8 hB h
 |(i,false)::t,c,listed,a,w,inv,hB,hS,hS1,h=>by
  simp only[tL,Bool.and_eq_true,decide_eq_true_eq,Bool.or_eq_true,Bool.false_eq_true,if_false,beq_iff_eq]at hB;obtain⟨⟨⟨⟨l9,hr⟩,hw⟩,hf,cA⟩,AU⟩:=hB;obtain⟨o,v,ho,hy,hk⟩:=h;have mi:i∈Region.ready md ops listed:=(by simpa using hr);rw[List.length_cons,show t.length+1+tl.length=(t.length+tl.length)+1 by omega];exact wR ho (Region.noSelect_spec hZ) (fun c a w h=>hQ c a _ _ w h) hs hc hn l9 hw.symm _ listed a w inv (Region.free_spec ho hf) mi hy ⟨hS,fun hl=>by
    rcases cA with h|h
    ·exact hS1 h
    ·rw[hl]at h;cases h⟩
   (nZ hZ hs hc hn hQ p8 t c _ _ w (inv.set mi l9) AU hS hS1 hk)
 |(i,true)::t,c,listed,a,w,inv,hB,hS,hS1,h=>by
  simp only[tL,Bool.and_eq_true,decide_eq_true_eq,if_true,beq_iff_eq]at hB;obtain⟨⟨⟨⟨l9,hr⟩,hw⟩,aN⟩,AU⟩:=hB;have mi:i∈Region.ready md ops listed:=(by simpa using hr);rw[List.length_cons,show t.length+1+tl.length=(t.length+tl.length)+1 by omega];refine⟨fun h1=>(by rw[h1]at mi;cases mi),fun j hj=> ?_⟩;rw[aN]at hj;obtain rfl:j=i:=(by simpa using hj);exact wpOp_mono (fun a' w' h'=>⟨fun _=>by unfold vL;rw[if_pos hw.symm];exact h'.1,nZ hZ hs hc hn hQ p8 t _ _ a' w' (inv.set mi l9) AU h'.1.1 (fun hb=>h'.1.2 (by simp only[Bool.and_eq_true]at hb;exact hb.2)) h'.2⟩) h
def tM (md:Region.Mode) (ops:Array Oper) (late wr:List Nat) (n:Nat) (dI:List (Nat×Bool)):Bool:=
 Region.noSelect ops&&decide (n<ops.size)&&decide (dI.length=n)&&Region.sinkB md ops n&&Region.chainB md ops n&&tL md ops late wr n (ops.size - n) true dI (Array.replicate ops.size false)
theorem dC {id:Nat} {a:Act} {w:World} {l:List Oper} (n:Nat) (late wr:List Nat) (dI:List (Nat×Bool)) (S1 S2:World→Prop) (hm:P.follows .mixedOrders=true) (hB:tM .any l.toArray late wr n dI=true) (hQ:∀c a d v w,Q (.panic c) (Act.put a d v) w→Q (.panic c) a w) (hS1:S1 w.drew) (wS:S2 w.drew)
  (h:wpPlanU P .any l.toArray Q S1 S2 late n (fun a' w'=>wpList P l.toArray Q (l.drop n) a' w') dI a w.drew):(Code.region id l.toArray true).wp P Q a w:=by
 simp only[tM,Bool.and_eq_true,decide_eq_true_eq]at hB;obtain⟨⟨⟨⟨⟨hZ,hn⟩,hpl⟩,hs⟩,hc⟩,hp⟩:=hB;have VE:n<l.length:=by simpa using hn
 have L6:(l.drop n).length=l.toArray.size - n:=by simp
 have AV:HeadInv .any l.toArray n (Array.replicate l.toArray.size false):=
  ⟨by simp,fun j oj _ hl=>(by rw[getD_replicate_false]at hl;cases hl),fun t _ ht=>getD_in (by simpa using ht) (getD_replicate_false _ _)⟩
 have H:=nZ (md:= .any) (late:=late) (wr:=wr) (tl:=l.drop n) hZ hs hc hn hQ (fun j=>by simp[List.getElem?_drop]) dI true _ a w.drew AV (by rw[L6];exact hp) wS (fun _=>hS1) h;refine wp_region_any hm ?_;have H2:=tK _ _ _ _ H;rw[L6,hpl,show n+(l.toArray.size - n)=l.toArray.size by omega]at H2;exact H2
theorem cj {n:Nat} {L:Act→World→Prop} {i:Nat} {o:Oper} {t:List (Nat×Bool)} {a:Act} {w:World} {v:Value} (ho:ops[i]? =some o) (hg:o.guard=none) (hl:late.contains i=false) (hy:∀w',S1 w'→(execOp a.eval o).run P w'= .ok (.value v) w')
  (h:∀K:Act→Prop,(∀a,wpPlanU P md ops Q S1 S2 late n L t a w→K a)→K (a.put o.dst v)):wpPlanU P md ops Q S1 S2 late n L ((i,false)::t) a w:=
 ⟨o,v,ho, .inl ⟨by simp[Region.wanted,hg],fun w' hS=>hy w' (hS.2 hl)⟩,h _ fun _ h=>h⟩
theorem ck {n:Nat} {L:Act→World→Prop} {i:Nat} {o:Oper} {t:List (Nat×Bool)} {a:Act} {w:World} {v:Value} (ho:ops[i]? =some o) (hg:o.guard=none) (hy:∀w',S2 w'→(execOp a.eval o).run P w'= .ok (.value v) w')
  (h:∀K:Act→Prop,(∀a,wpPlanU P md ops Q S1 S2 late n L t a w→K a)→K (a.put o.dst v)):wpPlanU P md ops Q S1 S2 late n L ((i,false)::t) a w:=
 ⟨o,v,ho, .inl ⟨by simp[Region.wanted,hg],fun w' hS=>hy w' hS.1⟩,h _ fun _ h=>h⟩
theorem bU {n:Nat} {L:Act→World→Prop} {i:Nat} {o:Oper} {t:List (Nat×Bool)} {a:Act} {w:World} (ho:ops[i]? =some o)
  (h:∀K:Act→World→Prop,Shut (∀a w,S1 w→S2 w→wpPlanU P md ops Q S1 S2 late n L t a w→K a w)→if Region.wanted o (yielded ops a.tmps)=true then Oper.wp P o a w K Q else K (a.put o.dst undef) w):wpPlanU P md ops Q S1 S2 late n L ((i,true)::t) a w:=
 wpOp_step ho (fun K hK=>h K (fun a w h1 h2 hW=>hK a w ⟨⟨h2,fun _=>h1⟩,hW⟩))
theorem iG {n:Nat} {L:Act→World→Prop} {i:Nat} {o:Oper} {t:List (Nat×Bool)} {a:Act} {w:World} (ho:ops[i]? =some o) (hw:yx md ops n late i=false)
  (h:∀K:Act→World→Prop,Shut (∀a w,S2 w→wpPlanU P md ops Q S1 S2 late n L t a w→K a w)→if Region.wanted o (yielded ops a.tmps)=true then Oper.wp P o a w K Q else K (a.put o.dst undef) w):wpPlanU P md ops Q S1 S2 late n L ((i,true)::t) a w:=
 wpOp_step ho (fun K hK=>h K (fun a w h2 hW=>hK a w ⟨⟨h2,fun e=>by rw[hw]at e;cases e⟩,hW⟩))
end
end Go.Proofs.YtipljcmmokaokaaGreat
namespace Go.Proofs.YtipljcmmokaokaaGreat
open Go.RowKit Go.Lib
set_option maxRecDepth 100000
abbrev wT (h0 h1 a0 a1:Value):Value:= .agg #[h0,h1,a0,a1]
theorem rh (w:World) (a b c:Obj):(((w.alloc a).alloc b).alloc c).heap[w.heap.size+1+1]? =some c:=by
 have:=heap_alloc_new ((w.alloc a).alloc b) c
 simpa using this
theorem tN {w:World} {base n size:Nat} {e:TypeId} {v:Value} {xs:List Value} (h:w.ownsRow base e size v n xs):∃A m c,v= .slice A m c:=by
 rcases h.2 with⟨rfl,_⟩|⟨g',cap,cur,rfl,_⟩
 ·exact⟨_,_,_,rfl⟩
 ·exact⟨_,_,_,rfl⟩
theorem kH {w:World} {g:Nat} {t:TypeId} {cs:Array Value} (h:w.heap[g]? =some (.cells cs t (0,0))) (i:Nat) (u:Value):(w.setCell ⟨g,i,none⟩ u).heap[g]? =some (.cells (cs.setIfInBounds i u) t (0,0)):=by
 simp[World.setCell,Array.getElem?_modify,h]
theorem yy {w:World} {g g' i:Nat} {u:Value} {o:Obj} (h:w.heap[g]? =some o) (hne:g'≠g):(w.setCell ⟨g',i,none⟩ u).heap[g]? =some o:=by
 simp[World.setCell,Array.getElem?_modify,h,hne]
theorem CW {w w':World} {base B n size:Nat} {e:TypeId} {v:Value} {xs:List Value} (h:w.ownsRow base e size v n xs) (hb:B≤base) (hk:∀k,base≤k→w'.heap[k]? =w.heap[k]?):w'.ownsRow B e size v n xs:=by
 refine⟨h.1, ?_⟩;rcases h.2 with h|⟨g,cap,cur,rfl,h1,h2,h3⟩
 ·exact .inl h
 ·exact .inr ⟨g,cap,cur,rfl,au hb h1,(hk g h1).trans h2,h3⟩
section
variable {w5 : World} {g g' i : Nat} {x y0 y1 y2 y3 : Value}
theorem yz (j:Nat) (h:j≠g) (h':j≠g'):(((((w5.setCell ⟨g,i,none⟩ x).setCell ⟨g',0,none⟩ y0).setCell ⟨g',1,none⟩ y1).setCell ⟨g',2,none⟩ y2).setCell ⟨g',3,none⟩ y3).heap[j]? =w5.heap[j]? :=by
 rw[Below.heap_setCell _ _ _ _ (by exact h'),Below.heap_setCell _ _ _ _ (by exact h'),Below.heap_setCell _ _ _ _ (by exact h'),Below.heap_setCell _ _ _ _ (by exact h'),Below.heap_setCell _ _ _ _ (by exact h)]
theorem tO {w:World} (h:Below w.heap.size w w5):Below w.heap.size w (((((w5.setCell ⟨w.heap.size,i,none⟩ x).setCell ⟨w.heap.size+1+1,0,none⟩ y0).setCell ⟨w.heap.size+1+1,1,none⟩ y1).setCell ⟨w.heap.size+1+1,2,none⟩ y2).setCell ⟨w.heap.size+1+1,3,none⟩ y3):=
 ((((h.setCell (p:=⟨w.heap.size,i,none⟩) (aj _) x).setCell (p:=⟨w.heap.size+1+1,0,none⟩) (by show _≤w.heap.size+1+1;omega) y0).setCell (p:=⟨w.heap.size+1+1,1,none⟩) (by show _≤w.heap.size+1+1;omega) y1).setCell (p:=⟨w.heap.size+1+1,2,none⟩) (by show _≤w.heap.size+1+1;omega) y2).setCell (p:=⟨w.heap.size+1+1,3,none⟩) (by show _≤w.heap.size+1+1;omega) y3
end
def dX (w0:World) (I X R:Array Value) (w:World):Prop:=
 Below w0.heap.size w0 w∧w.heap[w0.heap.size]? =some (.cells I 80 (0,0))∧w.heap[w0.heap.size+1]? =some (.cells X 139 (0,0))∧w.heap[w0.heap.size+1+1]? =some (.cells R 80 (0,0))
theorem yA (w:World) (I X R:Array Value):dX w I X R (((w.alloc (.cells I 80)).alloc (.cells X 139)).alloc (.cells R 80)):=by
 refine⟨(((ai _ w).alloc (aj _) _).alloc (by simp) _).alloc (by simp;omega) _, ?_, ?_,rh _ _ _ _⟩
 ·rw[Below.heap_alloc _ _ _ (by simp;omega),Below.heap_alloc _ _ _ (by simp)];exact heap_alloc_new _ _
 ·rw[Below.heap_alloc _ _ _ (by simp)];have:=heap_alloc_new (w.alloc (.cells I 80)) (.cells X 139)
  simpa using this
section
variable {w0 w w' : World} {I X R : Array Value}
theorem dX.lt (h:dX w0 I X R w):w0.heap.size+1+1<w.heap.size:=(ah h.2.2.2).1
theorem dX.drew (h:dX w0 I X R w):dX w0 I X R w.drew:=⟨h.1.drew,h.2⟩
theorem dX.alloc (h:dX w0 I X R w) (o:Obj):dX w0 I X R (w.alloc o):=by
 have:=h.lt;exact⟨h.1.alloc h.1.size o,(Below.heap_alloc _ _ _ (by omega)).trans h.2.1,(Below.heap_alloc _ _ _ (by omega)).trans h.2.2.1,(Below.heap_alloc _ _ _ (by omega)).trans h.2.2.2⟩
theorem dX.below (h:dX w0 I X R w) (hb:Below w.heap.size w w'):dX w0 I X R w':=by
 have:=h.lt;exact⟨⟨hb.os.trans h.1.os,hb.tape.trans h.1.tape,hb.output.trans h.1.output,au h.1.size hb.size,fun k hk=>(hb.block k (by omega)).trans (h.1.block k hk)⟩,(hb.block _ (by omega)).trans h.2.1,(hb.block _ (by omega)).trans h.2.2.1,(hb.block _ (by omega)).trans h.2.2.2⟩
theorem dX.seen (h:dX w0 I X R w):Below w0.heap.size w0 w∧w0.heap.size+1+1<w.heap.size∧(∀j,w.cell? ⟨w0.heap.size,j,none⟩=I[j]?)∧(∀j,w.frozen? ⟨w0.heap.size,j,none⟩=false)∧(∀j,w.cell? ⟨w0.heap.size+1,j,none⟩=X[j]?)∧(∀j,w.cell? ⟨w0.heap.size+1+1,j,none⟩=R[j]?)∧∀j,w.frozen? ⟨w0.heap.size+1+1,j,none⟩=false:=
 ⟨h.1,h.lt,fun j=>ag _ _ j _ _ _ h.2.1,fun j=>by simp[World.frozen?,h.2.1],fun j=>ag _ _ j _ _ _ h.2.2.1,fun j=>ag _ _ j _ _ _ h.2.2.2,fun j=>by simp[World.frozen?,h.2.2.2]⟩
end
theorem yB (A0 A1 A2 A3 A4:Option Addr) (n0 n1 n2 n3 n4 c0 c1 c2 c3 c4:Nat) (many:Int) (w:World):
  Calls Tryz.prog 79 #[wT (.slice A0 n0 c0) (.slice A1 n1 c1) (.slice A2 n2 c2) (.slice A3 n3 c3), .agg #[.int .u8 1, .int .i64 0, .slice A4 n4 c4], .int .i64 many] w fun e w'=>e= .returned (wT (.slice A0 n0 c0) (.slice A1 n1 c1) (.slice none 0 0) (.slice A3 n3 c3))∧Below w.heap.size w w':=by
 go_enter Tryz.func79,Tryz.ntmps79;go_wp2_with fail;refine bodyPost_ret (results_cell_row rfl _ _ (w.heap.size+1+1) _ _ _ _ rfl (rh _ _ _ _) Tryz.underlying80 rfl (by kernel_rfl)) rfl ?_;exact⟨rfl,(((ai _ w).alloc (aj _) _).alloc (by simp) _).alloc (by simp;omega) _⟩
theorem yC (A0 A1 A2 A3 A4:Option Addr) (n0 n1 n2 n3 n4 c0 c1 c2 c3 c4:Nat) (many:Int) (w:World):
  Calls Tryz.prog 79 #[wT (.slice A0 n0 c0) (.slice A1 n1 c1) (.slice A2 n2 c2) (.slice A3 n3 c3), .agg #[.int .u8 1, .int .i64 1, .slice A4 n4 c4], .int .i64 many] w fun e w'=>e= .returned (wT (.slice A0 n0 c0) (.slice A1 n1 c1) (.slice A2 n2 c2) (.slice none 0 0))∧Below w.heap.size w w':=by
 go_enter Tryz.func79,Tryz.ntmps79;go_wp2_with fail;refine bodyPost_ret (results_cell_row rfl _ _ (w.heap.size+1+1) _ _ _ _ rfl (rh _ _ _ _) Tryz.underlying80 rfl (by kernel_rfl)) rfl ?_;exact⟨rfl,(((ai _ w).alloc (aj _) _).alloc (by simp) _).alloc (by simp;omega) _⟩
theorem AW (A0 A1 A2 A3:Option Addr) (n0 n1 n2 n3 n4 c0 c1 c2 c3 c4 b o:Nat) (many:Nat) (w:World) (M2 M4:Nat→Prop) (l2 l4:List UInt8) (h2:By w M2 A0 n0 l2) (hc2:n0≤c0) (h4:By w M4 (some ⟨b,o,none⟩) n4 l4) (hm:many≤n4) (hc:n4≤c4) (Pz:n0≤40000000) (Gn:n4≤40000000):
  Calls Tryz.prog 79 #[wT (.slice A0 n0 c0) (.slice A1 n1 c1) (.slice A2 n2 c2) (.slice A3 n3 c3), .agg #[.int .u8 2, .int .i64 0, .slice (some ⟨b,o,none⟩) n4 c4], .int .i64 many] w fun e w'=>∃A' n' c',e= .returned (wT (.slice A' n' c') (.slice A1 n1 c1) (.slice A2 n2 c2) (.slice A3 n3 c3))∧w'.ownsRow w.heap.size 5 1 (.slice A' n' c') (l4.take many++l2.drop many).length (dy (l4.take many++l2.drop many))∧Below w.heap.size w w':=by
 obtain⟨kk,oc⟩:∃kk:Nat,kk=min many n0:=⟨_,rfl⟩;have yD:l2.drop many=l2.drop kk:=by
  rcases Nat.le_total many n0 with h|h
  ·rw[oc,Nat.min_eq_left h]
  ·rw[oc,Nat.min_eq_right h,List.drop_of_length_le (by rw[h2.1];exact h),List.drop_of_length_le (by rw[h2.1];omega)]
 have H2:=aa (h2.drop (k:=kk) (cap:=c0) (by omega) hc2);have H4:=aa (h4.take hm);have HL:=aa (show min many l4.length+(l2.length - kk)=many+(n0 - kk) by rw[h2.1,h4.1];omega);rw[yD];have Sd:(many:Int)≤(n4:Int):=by omega
 have DO:(many:Int)≤(c4:Int):=by omega
 have sS:many≤40000000:=by omega
 have Tk:(if n0<many then(n0:Int)else(many:Int))=(kk:Int):=by split<;>omega
 have jB:(kk:Int)≤(n0:Int):=by omega
 have hk2:kk≤n0:=by omega
 clear h2 h4 oc yD;go_enter Tryz.func79,Tryz.ntmps79;go_upto_region 3 with fail;have hst:=yA w #[.slice A0 n0 c0, .slice A1 n1 c1, .slice A2 n2 c2, .slice A3 n3 c3] #[.int .u8 2, .int .i64 0, .slice (some ⟨b,o,none⟩) n4 c4] #[.slice none 0 0, .slice none 0 0, .slice none 0 0, .slice none 0 0];generalize((w.alloc (.cells #[.slice A0 n0 c0, .slice A1 n1 c1, .slice A2 n2 c2, .slice A3 n3 c3] 80)).alloc (.cells #[.int .u8 2, .int .i64 0, .slice (some ⟨b,o,none⟩) n4 c4] 139)).alloc (.cells #[.slice none 0 0, .slice none 0 0, .slice none 0 0, .slice none 0 0] 80)=W at hst⊢;have HST:=aa hst;clear hst;refine aY 15 [(0,false),(1,false),(2,false),(3,false),(4,false),(5,false),(6,false),(7,false),(8,false),(9,false),(10,false),(11,false),(14,false),(12,true),(13,true)] (fun w'=>dX w #[.slice A0 n0 c0, .slice A1 n1 c1, .slice A2 n2 c2, .slice A3 n3 c3] #[.int .u8 2, .int .i64 0, .slice (some ⟨b,o,none⟩) n4 c4] #[.slice none 0 0, .slice none 0 0, .slice none 0 0, .slice none 0 0] w') (by kernel_rfl) (by kernel_rfl) (fun c a d v w h=>by cases d<;>exact h) HST.out.drew ?_;repeat
  refine bM (v:= ?_) (by rfl) (by rfl) (fun w' hS=> ?_) (fun K hK=> ?_);rotate_left
  ·obtain⟨_,_,AX,M8,M9,Na,Nb⟩:=hS.seen;clear hS;go_simp;try with_reducible rfl
  go_simp;refine hK _ ?_;clear hK K
 refine cd (by rfl) (fun K hK=> ?_);go_simp;refine hK.out _ _ (HST.out.drew.alloc _) ?_;clear hK K;refine cd (by rfl) (fun K hK=> ?_);go_simp;refine(rL W.drew.heap.size (some ⟨b,o,none⟩) (if c0=kk then A0 else A0.map (·.add kk)) many (n0 - kk) c4 (c0 - kk) (l4.take many) (l2.drop kk) _ M4 M2 (by simp) (World.cell?_alloc_new _ _ _ _) (World.cell?_alloc_new _ _ _ _) (H4.out.step (Step.aH (HST.out.1.drew.alloc HST.out.1.size _))) (H2.out.step (Step.aH (HST.out.1.drew.alloc HST.out.1.size _))) (by omega) (by omega)).mono ?_;rintro e w5 ⟨v5,rfl,kU,jb⟩;obtain⟨A5,m5,c5,rfl⟩:=tN kU;have sk:=aa ((HST.out.drew.alloc _).below jb);have nS:=aa kU;clear kU jb;refine hK.out _ _ sk.out ?_;clear hK K;obtain⟨_,Tl,AX,M8,M9,Na,Nb⟩:=sk.out.seen;show wpList _ _ _ _ _ _;go_wp2_with fail
 all_goals
  have hrow:=kH (kH (kH (kH (yy (i:=0) (u:= .slice A5 m5 c5) sk.out.2.2.2 (show w.heap.size≠w.heap.size+1+1 by omega)) 0 (.slice A5 m5 c5)) 1 (.slice A1 n1 c1)) 2 (.slice A2 n2 c2)) 3 (.slice A3 n3 c3);refine bodyPost_ret (results_cell_row rfl _ _ (w.heap.size+1+1) _ _ _ _ rfl hrow Tryz.underlying80 rfl (by kernel_rfl)) rfl ?_;refine⟨A5,m5,c5,rfl, ?_,tO sk.out.1⟩;rw[HL.out];exact CW nS.out (by have:=HST.out.lt;simp;omega) (fun j hj=>yz j (by have:=HST.out.lt;simp at hj;omega) (by have:=HST.out.lt;simp at hj;omega))
theorem AY (A0 A1 A2 A3:Option Addr) (n0 n1 n2 n3 n4 c0 c1 c2 c3 c4 b o:Nat) (many:Nat) (w:World) (M2 M4:Nat→Prop) (l2 l4:List UInt8) (h2:By w M2 A1 n1 l2) (hc2:n1≤c1) (h4:By w M4 (some ⟨b,o,none⟩) n4 l4) (hm:many≤n4) (hc:n4≤c4) (Pz:n1≤40000000) (Gn:n4≤40000000):
  Calls Tryz.prog 79 #[wT (.slice A0 n0 c0) (.slice A1 n1 c1) (.slice A2 n2 c2) (.slice A3 n3 c3), .agg #[.int .u8 2, .int .i64 1, .slice (some ⟨b,o,none⟩) n4 c4], .int .i64 many] w fun e w'=>∃A' n' c',e= .returned (wT (.slice A0 n0 c0) (.slice A' n' c') (.slice A2 n2 c2) (.slice A3 n3 c3))∧w'.ownsRow w.heap.size 5 1 (.slice A' n' c') (l4.take many++l2.drop many).length (dy (l4.take many++l2.drop many))∧Below w.heap.size w w':=by
 obtain⟨kk,oc⟩:∃kk:Nat,kk=min many n1:=⟨_,rfl⟩;have yD:l2.drop many=l2.drop kk:=by
  rcases Nat.le_total many n1 with h|h
  ·rw[oc,Nat.min_eq_left h]
  ·rw[oc,Nat.min_eq_right h,List.drop_of_length_le (by rw[h2.1];exact h),List.drop_of_length_le (by rw[h2.1];omega)]
 have H2:=aa (h2.drop (k:=kk) (cap:=c1) (by omega) hc2);have H4:=aa (h4.take hm);have HL:=aa (show min many l4.length+(l2.length - kk)=many+(n1 - kk) by rw[h2.1,h4.1];omega);rw[yD];have Sd:(many:Int)≤(n4:Int):=by omega
 have DO:(many:Int)≤(c4:Int):=by omega
 have sS:many≤40000000:=by omega
 have Tk:(if n1<many then(n1:Int)else(many:Int))=(kk:Int):=by split<;>omega
 have jB:(kk:Int)≤(n1:Int):=by omega
 have hk2:kk≤n1:=by omega
 clear h2 h4 oc yD;go_enter Tryz.func79,Tryz.ntmps79;go_upto_region 3 with fail;have hst:=yA w #[.slice A0 n0 c0, .slice A1 n1 c1, .slice A2 n2 c2, .slice A3 n3 c3] #[.int .u8 2, .int .i64 1, .slice (some ⟨b,o,none⟩) n4 c4] #[.slice none 0 0, .slice none 0 0, .slice none 0 0, .slice none 0 0];generalize((w.alloc (.cells #[.slice A0 n0 c0, .slice A1 n1 c1, .slice A2 n2 c2, .slice A3 n3 c3] 80)).alloc (.cells #[.int .u8 2, .int .i64 1, .slice (some ⟨b,o,none⟩) n4 c4] 139)).alloc (.cells #[.slice none 0 0, .slice none 0 0, .slice none 0 0, .slice none 0 0] 80)=W at hst⊢;have HST:=aa hst;clear hst;refine aY 15 [(0,false),(1,false),(2,false),(3,false),(4,false),(5,false),(6,false),(7,false),(8,false),(9,false),(10,false),(11,false),(14,false),(12,true),(13,true)] (fun w'=>dX w #[.slice A0 n0 c0, .slice A1 n1 c1, .slice A2 n2 c2, .slice A3 n3 c3] #[.int .u8 2, .int .i64 1, .slice (some ⟨b,o,none⟩) n4 c4] #[.slice none 0 0, .slice none 0 0, .slice none 0 0, .slice none 0 0] w') (by kernel_rfl) (by kernel_rfl) (fun c a d v w h=>by cases d<;>exact h) HST.out.drew ?_;repeat
  refine bM (v:= ?_) (by rfl) (by rfl) (fun w' hS=> ?_) (fun K hK=> ?_);rotate_left
  ·obtain⟨_,_,AX,M8,M9,Na,Nb⟩:=hS.seen;clear hS;go_simp;try with_reducible rfl
  go_simp;refine hK _ ?_;clear hK K
 refine cd (by rfl) (fun K hK=> ?_);go_simp;refine hK.out _ _ (HST.out.drew.alloc _) ?_;clear hK K;refine cd (by rfl) (fun K hK=> ?_);go_simp;refine(rL W.drew.heap.size (some ⟨b,o,none⟩) (if c1=kk then A1 else A1.map (·.add kk)) many (n1 - kk) c4 (c1 - kk) (l4.take many) (l2.drop kk) _ M4 M2 (by simp) (World.cell?_alloc_new _ _ _ _) (World.cell?_alloc_new _ _ _ _) (H4.out.step (Step.aH (HST.out.1.drew.alloc HST.out.1.size _))) (H2.out.step (Step.aH (HST.out.1.drew.alloc HST.out.1.size _))) (by omega) (by omega)).mono ?_;rintro e w5 ⟨v5,rfl,kU,jb⟩;obtain⟨A5,m5,c5,rfl⟩:=tN kU;have sk:=aa ((HST.out.drew.alloc _).below jb);have nS:=aa kU;clear kU jb;refine hK.out _ _ sk.out ?_;clear hK K;obtain⟨_,Tl,AX,M8,M9,Na,Nb⟩:=sk.out.seen;show wpList _ _ _ _ _ _;go_wp2_with fail
 all_goals
  have hrow:=kH (kH (kH (kH (yy (i:=1) (u:= .slice A5 m5 c5) sk.out.2.2.2 (show w.heap.size≠w.heap.size+1+1 by omega)) 0 (.slice A0 n0 c0)) 1 (.slice A5 m5 c5)) 2 (.slice A2 n2 c2)) 3 (.slice A3 n3 c3);refine bodyPost_ret (results_cell_row rfl _ _ (w.heap.size+1+1) _ _ _ _ rfl hrow Tryz.underlying80 rfl (by kernel_rfl)) rfl ?_;refine⟨A5,m5,c5,rfl, ?_,tO sk.out.1⟩;rw[HL.out];exact CW nS.out (by have:=HST.out.lt;simp;omega) (fun j hj=>yz j (by have:=HST.out.lt;simp at hj;omega) (by have:=HST.out.lt;simp at hj;omega))
end Go.Proofs.YtipljcmmokaokaaGreat
namespace Go.Proofs.YtipljcmmokaokaaGreat
open Go
inductive Pl where
 |fin
 |rd (i:Nat) (p:Pl)
 |wr (i:Nat) (p:Pl)
 |two (i:Nat) (p:Pl) (j:Nat) (q:Pl)
def Pl.len:Pl→Nat
 | .fin=>0
 | .rd _ p=>p.len+1
 | .wr _ p=>p.len+1
 | .two _ p _ _=>p.len+1
section
variable {P : Program} {ops : Array Oper} {Q : Exit → Act → World → Prop} {md : Region.Mode} {S : World → Prop}
def CX (md:Region.Mode) (ops:Array Oper) (n g:Nat):Pl→Array Bool→Bool
 | .fin,listed=>Region.seqB md ops g n listed
 | .rd i p,listed=>decide (i<n)&&(Region.ready md ops listed).contains i&&Region.free md ops listed i&&CX md ops n g p (listed.setIfInBounds i true)
 | .wr i p,listed=>decide (i<n)&&decide (Region.ready md ops listed=[i])&&CX md ops n g p (listed.setIfInBounds i true)
 | .two i p j q,listed=>decide (i<n)&&decide (j<n)&&decide (Region.ready md ops listed=[i,j])&&decide (p.len=q.len)&&CX md ops n g p (listed.setIfInBounds i true)&&CX md ops n g q (listed.setIfInBounds j true)
def CY (md:Region.Mode) (ops:Array Oper) (n:Nat) (dI:Pl):Bool:=
 Region.noSelect ops&&decide (n<ops.size)&&decide (dI.len=n)&&Region.sinkB md ops n&&Region.chainB md ops n&&CX md ops n (ops.size - n) dI (Array.replicate ops.size false)
end
section
variable {P : Program} {ops : Array Oper} {Q : Exit → Act → World → Prop} {md : Region.Mode} {S : World → Prop}
theorem ig {S T:World→Prop} (vM:∀w,T w→S w) {n:Nat}:∀(fuel:Nat) (listed:Array Bool) (a:Act) (w:World),wpAnyT P md ops Q T n fuel listed a w→wpAnyT P md ops Q S n fuel listed a w
 |0,_,_,_,h=>h
 |fuel+1,_,_,_,h=>⟨h.1,fun i hi=>wpOp_mono (fun a' w' h'=>⟨fun hl=>vM _ (h'.1 hl),ig vM fuel _ a' w' h'.2⟩) (h.2 i hi)⟩
def wpPm (P:Program) (ops:Array Oper) (Q:Exit→Act→World→Prop) (L:Act→World→Prop):Pl→(World→Prop)→Act→World→Prop
 | .fin,_,a,w=>L a w
 | .rd i p,S,a,w=>∃o v,ops[i]? =some o∧YieldsIf P ops S o v a∧wpPm P ops Q L p S (a.put o.dst v) w
 | .wr i p,S,a,w=>wpOp P ops Q i (fun a' w'=>∃T:World→Prop,(∀w,T w→S w)∧T w'∧wpPm P ops Q L p T a' w') a w
 | .two i p j q,S,a,w=>wpOp P ops Q i (fun a' w'=>∃T:World→Prop,(∀w,T w→S w)∧T w'∧wpPm P ops Q L p T a' w') a w∧wpOp P ops Q j (fun a' w'=>∃T:World→Prop,(∀w,T w→S w)∧T w'∧wpPm P ops Q L q T a' w') a w
theorem mj {n:Nat} {tl:List Oper} (hZ:Region.noSelect ops=true) (hs:Region.sinkB md ops n=true) (hc:Region.chainB md ops n=true) (hn:n<ops.size) (hQ:∀c a d v w,Q (.panic c) (Act.put a d v) w→Q (.panic c) a w) (p8:∀j,tl[j]? =ops[n+j]?):
  ∀(dI:Pl) (S:World→Prop) (listed:Array Bool) (a:Act) (w:World),HeadInv md ops n listed→CX md ops n tl.length dI listed=true→S w→
   wpPm P ops Q (fun a w=>wpList P ops Q tl a w) dI S a w→wpAnyT P md ops Q S n (dI.len+tl.length) listed a w
 | .fin,S,listed,a,w,inv,hB,hS,h=>by
  rw[Pl.len,Nat.zero_add];exact kA tl n listed a w (aj _) p8 hB h
 | .rd i t,S,listed,a,w,inv,hB,hS,h=>by
  simp only[CX,Bool.and_eq_true,decide_eq_true_eq]at hB;obtain⟨⟨⟨l9,hr⟩,hf⟩,AU⟩:=hB;obtain⟨o,v,ho,hy,hk⟩:=h;have mi:i∈Region.ready md ops listed:=(by simpa using hr);rw[Pl.len,show t.len+1+tl.length=(t.len+tl.length)+1 by omega];exact p7 ho (Region.noSelect_spec hZ) (fun c a w h=>hQ c a _ _ w h) hs hc hn l9 _ listed a w inv (Region.free_spec ho hf) mi hy hS
   (mj hZ hs hc hn hQ p8 t S _ _ w (inv.set mi l9) AU hS hk)
 | .wr i t,S,listed,a,w,inv,hB,hS,h=>by
  simp only[CX,Bool.and_eq_true,decide_eq_true_eq]at hB;obtain⟨⟨l9,aN⟩,AU⟩:=hB;have mi:i∈Region.ready md ops listed:=(by rw[aN];simp);rw[Pl.len,show t.len+1+tl.length=(t.len+tl.length)+1 by omega];refine⟨fun h1=>(by rw[h1]at mi;cases mi),fun j hj=> ?_⟩;rw[aN]at hj;obtain rfl:j=i:=(by simpa using hj);exact wpOp_mono (fun a' w' ⟨T,vM,h1,h2⟩=>⟨fun _=>vM _ h1,ig vM _ _ _ _ (mj hZ hs hc hn hQ p8 t T _ a' w' (inv.set mi l9) AU h1 h2)⟩) h
 | .two i p j q,S,listed,a,w,inv,hB,hS,h=>by
  simp only[CX,Bool.and_eq_true,decide_eq_true_eq]at hB;obtain⟨⟨⟨⟨⟨l9,z8⟩,AZ⟩,hlen⟩,yE⟩,yF⟩:=hB;have Nc:i∈Region.ready md ops listed:=(by rw[AZ];simp);have Tm:j∈Region.ready md ops listed:=(by rw[AZ];simp);rw[Pl.len,show p.len+1+tl.length=(p.len+tl.length)+1 by omega];refine⟨fun h1=>(by rw[h1]at Nc;cases Nc),fun k hk=> ?_⟩;rw[AZ]at hk;rcases ak hk with rfl|hk
  ·exact wpOp_mono (fun a' w' ⟨T,vM,h1,h2⟩=>⟨fun _=>vM _ h1,ig vM _ _ _ _ (mj hZ hs hc hn hQ p8 p T _ a' w' (inv.set Nc l9) yE h1 h2)⟩) h.1
  ·obtain rfl:k=j:=(by simpa using hk);rw[hlen];exact wpOp_mono (fun a' w' ⟨T,vM,h1,h2⟩=>⟨fun _=>vM _ h1,ig vM _ _ _ _ (mj hZ hs hc hn hQ p8 q T _ a' w' (inv.set Tm z8) yF h1 h2)⟩) h.2
theorem aA {id:Nat} {a:Act} {w:World} {l:List Oper} (n:Nat) (dI:Pl) (S:World→Prop) (hm:P.follows .mixedOrders=true) (hB:CY .any l.toArray n dI=true) (hQ:∀c a d v w,Q (.panic c) (Act.put a d v) w→Q (.panic c) a w) (hS:S w.drew)
  (h:wpPm P l.toArray Q (fun a' w'=>wpList P l.toArray Q (l.drop n) a' w') dI S a w.drew):(Code.region id l.toArray true).wp P Q a w:=by
 simp only[CY,Bool.and_eq_true,decide_eq_true_eq]at hB;obtain⟨⟨⟨⟨⟨hZ,hn⟩,hpl⟩,hs⟩,hc⟩,hp⟩:=hB;have VE:n<l.length:=by simpa using hn
 have L6:(l.drop n).length=l.toArray.size - n:=by simp
 have AV:HeadInv .any l.toArray n (Array.replicate l.toArray.size false):=
  ⟨by simp,fun j oj _ hl=>(by rw[getD_replicate_false]at hl;cases hl),fun t _ ht=>getD_in (by simpa using ht) (getD_replicate_false _ _)⟩
 have H:=mj (md:= .any) (tl:=l.drop n) hZ hs hc hn hQ (fun j=>by simp[List.getElem?_drop]) dI S _ a w.drew AV (by rw[L6];exact hp) hS h;refine wp_region_any hm ?_;have H2:=mY _ _ _ _ H;rw[L6,hpl,show n+(l.toArray.size - n)=l.toArray.size by omega]at H2;exact H2
theorem aw {L:Act→World→Prop} {i:Nat} {o:Oper} {t:Pl} {a:Act} {w:World} {v:Value} (ho:ops[i]? =some o) (hg:Region.wanted o (yielded ops a.tmps)=true) (hy:∀w',S w'→(execOp a.eval o).run P w'= .ok (.value v) w')
  (h:∀K:Act→Prop,(∀a,wpPm P ops Q L t S a w→K a)→K (a.put o.dst v)):wpPm P ops Q L (.rd i t) S a w:=
 ⟨o,v,ho, .inl ⟨hg,hy⟩,h _ fun _ h=>h⟩
theorem ax {L:Act→World→Prop} {i:Nat} {o:Oper} {t:Pl} {a:Act} {w:World} (ho:ops[i]? =some o) (hg:Region.wanted o (yielded ops a.tmps)=false)
  (h:∀K:Act→Prop,(∀a,wpPm P ops Q L t S a w→K a)→K (a.put o.dst undef)):wpPm P ops Q L (.rd i t) S a w:=
 ⟨o,undef,ho, .inr ⟨hg,rfl⟩,h _ fun _ h=>h⟩
theorem wpPm_write {L:Act→World→Prop} {i:Nat} {o:Oper} {t:Pl} {a:Act} {w:World} (ho:ops[i]? =some o)
  (h:∀K:Act→World→Prop,Shut (∀(a:Act) (w:World) (T:World→Prop),(∀w,T w→S w)→T w→wpPm P ops Q L t T a w→K a w)→if Region.wanted o (yielded ops a.tmps)=true then Oper.wp P o a w K Q else K (a.put o.dst undef) w):wpPm P ops Q L (.wr i t) S a w:=
 wpOp_step ho (fun K hK=>h K (fun a w T hT hS hW=>hK a w ⟨T,hT,hS,hW⟩))
theorem bJ {L:Act→World→Prop} {i j:Nat} {oi oj:Oper} {p q:Pl} {a:Act} {w:World} (hi:ops[i]? =some oi) (hj:ops[j]? =some oj)
  (h1:∀K:Act→World→Prop,Shut (∀(a:Act) (w:World) (T:World→Prop),(∀w,T w→S w)→T w→wpPm P ops Q L p T a w→K a w)→if Region.wanted oi (yielded ops a.tmps)=true then Oper.wp P oi a w K Q else K (a.put oi.dst undef) w)
  (h2:∀K:Act→World→Prop,Shut (∀(a:Act) (w:World) (T:World→Prop),(∀w,T w→S w)→T w→wpPm P ops Q L q T a w→K a w)→if Region.wanted oj (yielded ops a.tmps)=true then Oper.wp P oj a w K Q else K (a.put oj.dst undef) w):wpPm P ops Q L (.two i p j q) S a w:=
 ⟨wpOp_step hi (fun K hK=>h1 K (fun a w T hT hS hW=>hK a w ⟨T,hT,hS,hW⟩)),wpOp_step hj (fun K hK=>h2 K (fun a w T hT hS hW=>hK a w ⟨T,hT,hS,hW⟩))⟩
end
end Go.Proofs.YtipljcmmokaokaaGreat
namespace Go.Proofs.YtipljcmmokaokaaGreat
open Go.RowKit Go.Lib Go.Maps Go.WideMaps Go.Sort
set_option maxRecDepth 100000
def yG (w:World) (q:Nat):Prop:=(∀o (u v:UInt8),¬(w.cell? ⟨q,o,none⟩=some (u8 u)∧w.cell? ⟨q,o+1,none⟩=some (u8 v)))∧¬U8 w q
structure yH (M:Nat→Prop) (w w':World):Prop where
 os:w'.os=w.os
 tape:w'.tape=w.tape
 output:w'.output=w.output
 size:w.heap.size≤w'.heap.size
 keep:∀k,k<w.heap.size→M k→w'.heap[k]? =w.heap[k]?
 bytes:∀k,k<w.heap.size→¬yG w k→w'.heap[k]? =w.heap[k]?
theorem yH.bY {M:Nat→Prop} {w w':World} {row:Option Nat} (hg:w.grownBy w' row) (h:∀q,row=some q→¬M q∧yG w q):yH M w w':=
 ⟨hg.os,hg.tape,hg.output,hg.size,fun k hk hm=>hg.block k hk (fun e=>(h k e.symm).1 hm),fun k hk hn=>hg.block k hk (fun e=>hn (h k e.symm).2)⟩
section
variable {w w' : World} {M : Nat → Prop} {v : Value} {l : List UInt8}
theorem By.Tn {b o n:Nat} (h:By w M (some ⟨b,o,none⟩) n l) (hu:U8 w b) (ho:yH M w w'):By w' M (some ⟨b,o,none⟩) n l:=
 ⟨h.1,fun hn=>by
  obtain⟨b',o',e,hb,hM,hc⟩:=h.2 hn;injection e with e;injection e with e1 e2 e3;subst e1 e2;have hk:w'.heap[b]? =w.heap[b]? :=ho.bytes b hb (fun hno=>hno.2 hu);exact⟨b,o,rfl,aq hb ho.size,hM,fun j hj=>(World.cell?_of_block hk).trans (hc j hj)⟩⟩
theorem By.oth {A:Option Addr} {n:Nat} (h:By w M A n l) (h1:l.length≠1) (ho:yH M w w'):By w' M A n l:=
 ⟨h.1,fun hn=>by
  obtain⟨b,o,e,hb,hM,hc⟩:=h.2 hn;have hl:=h.1;have hk:w'.heap[b]? =w.heap[b]? :=ho.bytes b hb (fun hno=>hno.1 (o+0) _ _ ⟨hc 0 (by omega),hc 1 (by omega)⟩);exact⟨b,o,e,aq hb ho.size,hM,fun j hj=>(World.cell?_of_block hk).trans (hc j hj)⟩⟩
theorem cE.oth (h:cE w M v l) (ho:yH M w w'):cE w' M v l:=by
 rcases h with h|⟨b,o,e,h1,h2,hm,h3⟩
 ·exact .inl h
 ·exact .inr ⟨b,o,e,h1,h2.same ho.size (ho.bytes b h2.1 (fun hn=>hn.2 h2)),hm,h3.Tn h2 ho⟩
theorem yH.sub {M2:Nat→Prop} (ho:yH M w w') (h:∀k,M2 k→M k):yH M2 w w':=⟨ho.os,ho.tape,ho.output,ho.size,fun k hk hm=>ho.keep k hk (h k hm),ho.bytes⟩
theorem Sl.oth (h:Sl w M v l) (h1:l.length≠1) (ho:yH M w w'):Sl w' M v l:=by
 rcases h with h|⟨b,o,c,e,h0,h2,h3⟩
 ·exact .inl h
 ·exact .inr ⟨b,o,c,e,h0,aq h2 ho.size,h3.oth h1 ho⟩
theorem dp.oth {b:Nat} {m:List (J.B×J.B)} (h:dp w M b m) (ho:yH M w w') (hb:M b):dp w' M b m:=by
 have hl:=h.lt;obtain⟨D,h1,h2,h3,h4⟩:=h;refine⟨D, ?_,h2,h3,fun k l hk=> ?_⟩
 ·obtain⟨es,clock,g1,g2⟩:=h1;exact⟨es,clock,(ho.keep b hl hb).trans g1,g2⟩
 ·obtain⟨v,d,g1,g2,g3⟩:=h4 k l hk;exact⟨v,d,g1,g2,g3.oth ho⟩
theorem fS.oth {base:Nat} {L:List J.cn} (h:fS w M base v L) (ho:yH M w w') (hm:∀k,v.ownBlock=some k→M k):fS w' M base v L:=by
 obtain⟨vs,h1,h2,h3⟩:=h;refine⟨vs,h1,cY h2 (fun k e=>ho.keep k (h2.lt k e).2 (hm k e)),fun i hi hi'=> ?_⟩;have:=h3 i hi hi';exact this.oth ⟨ho.os,ho.tape,ho.output,ho.size,fun k hk h=>ho.keep k hk (h.elim id (hm k)),ho.bytes⟩
theorem nU.oth {L:List J.Wr} (h:nU w M v L) (hl:∀x∈L,x.bs.length≠1) (ho:yH M w w'):nU w' M v L:=by
 obtain⟨vs,h1,h2,h3,h4⟩:=h;exact⟨vs,h1,cY h2 (fun k e=>ho.keep k (h2.lt k e).2 (h3 k e)),h3,fun i hi hi'=>(h4 i hi hi').oth (hl _ (List.getElem_mem hi)) ho⟩
theorem jW.oth (h:jW w M v l) (ho:yH M w w'):jW w' M v l:=by
 rcases h with⟨h1,h2⟩|h
 ·exact .inl ⟨cY h1 (fun k e=>ho.keep k (h1.lt k e).2 (h2 k e)),h2⟩
 ·exact .inr (h.oth ho)
end
structure J.Two (s:J.St):Prop where
 wr:∀x∈s.writes,x.bs.length≠1
 h0:s.disk.h0.length≠1
 h1:s.disk.h1.length≠1
theorem bZ.oth {w w':World} {M:Nat→Prop} {s:J.St} {bn:Nat} {bw:Option Nat} {ch wr b0 b1 b2 b3 d0 d1 d2 d3:Value} (h:bZ w M s bn bw ch wr b0 b1 b2 b3 d0 d1 d2 d3) (ht:J.Two s) (ho:yH M w w'):bZ w' M s bn bw ch wr b0 b1 b2 b3 d0 d1 d2 d3:=by
 refine⟨h.now.oth ho h.mbn,h.mbn, ?_,h.chs.oth ho h.mch,h.mch,h.wrs.oth ht.wr ho,h.f0.oth ho,h.f1.oth ho,h.f2.oth ho,h.f3.oth ho,h.e0.oth ht.h0 ho,h.e1.oth ht.h1 ho,h.e2.oth ho,h.e3.oth ho,h.dd⟩;cases bw with
 |none=>exact h.was
 |some b=>
  obtain⟨g1,g2,g3,g4⟩:=h.was;exact⟨g1,g2.oth ho g3,g3,g4⟩
theorem bt.oth {w w':World} {p:Nat} {M:Nat→Prop} {s:J.St} (h:bt w p M s) (ht:J.Two s) (ho:yH M w w'):bt w' p M s:=by
 obtain⟨bn,bw,ch,wr,b0,b1,b2,b3,d0,d1,d2,d3,h1,h2,h3,h4⟩:=h;exact⟨bn,bw,ch,wr,b0,b1,b2,b3,d0,d1,d2,d3,(ho.keep p (ah h1).1 h2).trans h1,h2,h3.oth ht ho,h4⟩
end Go.Proofs.YtipljcmmokaokaaGreat
