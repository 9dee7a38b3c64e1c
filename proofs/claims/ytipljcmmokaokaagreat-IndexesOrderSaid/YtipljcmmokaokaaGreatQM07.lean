import Derived.Test.YtipljcmmokaokaaGreatQM06
import Derived.Test.YtipljcmmokaokaaGreatQLay
import Derived.Sort.OwnSorted
import Derived.Test.YtipljcmmokaokaaGreatQShelf
import Derived.RangeFuncNested
import Derived.RangeFuncBound
import Derived.RangeFuncCalls
import Derived.RangeFuncLeaves
import Derived.RangeFuncBox
import Derived.Shelf.Abstract
import Derived.Shelf.RegionOpen
import Derived.OwnWalkIn
import Derived.TacticsInMore
import Derived.LoopNIn
import Derived.LoopIn
import Derived.Maps.OwnIn
import Derived.Sort.MapsRangeIn
import Derived.Deep.CutRange
set_option linter.unusedVariables false
set_option linter.unusedSimpArgs false
set_option maxHeartbeats 8000000
namespace Go.Proofs.YtipljcmmokaokaaGreat
open Go.RowKit Go.Lib Go.Maps Go.WideMaps
set_option maxRecDepth 100000
theorem bt.cap {w:World} {p:Nat} {M:Nat→Prop} {s:J.St} (h:bt w p M s):bt w p (fun k=>M k∧k<w.heap.size) s:=by
 have hl:=h.lt;obtain⟨bn,bw,ch,wr,b0,b1,b2,b3,d0,d1,d2,d3,h1,h2,h3,h4⟩:=h;exact⟨bn,bw,ch,wr,b0,b1,b2,b3,d0,d1,d2,d3,h1,⟨h2,hl⟩,h3.keep ⟨rfl,rfl,rfl,aj _,fun _ _ _=>rfl,fun _ _ h=>h.1⟩ (fun k hk hm _=>⟨⟨hm,hk⟩,rfl⟩),h4⟩
theorem Step.yJ {w w':World} {M M':Nat→Prop} (h:Step (fun k=>M k∧k<w.heap.size) M' w w'):Step M M' w w':=
 ⟨h.os,h.tape,h.output,h.size,fun k hk hn=>h.block k hk (fun h=>hn h.1),fun k hk hm=>(h.sub k hk hm).1⟩
theorem cE.len {w:World} {M:Nat→Prop} {A:Option Addr} {n c:Nat} {l:List UInt8} (h:cE w M (.slice A n c) l):l.length=n∧c=n:=by
 rcases h with⟨e,rfl⟩|⟨b,o,e,_⟩
 ·injection e with _ e1 e2;exact⟨e1.symm,by omega⟩
 ·injection e with _ e1 e2;exact⟨e1.symm,by omega⟩
theorem cE.dg {w:World} {M:Nat→Prop} {v:Value} {l:List UInt8} (h:cE w M v l):∃A,v= .slice A l.length l.length:=by
 rcases h with⟨rfl,rfl⟩|⟨b,o,e,_⟩
 ·exact⟨_,rfl⟩
 ·exact⟨_,e⟩
theorem Sl.dg {w:World} {M:Nat→Prop} {v:Value} {l:List UInt8} (h:Sl w M v l):∃A c,v= .slice A l.length c:=by
 rcases h with⟨_,rfl,rfl⟩|⟨b,o,c,e,_⟩
 ·exact⟨_,_,rfl⟩
 ·exact⟨_,_,e⟩
theorem Ni (p:Nat) (M:Nat→Prop) (s:J.St) (key:ByteArray) (v:Value) (val:List UInt8) (w:World) (h:bt w p M s) (ho:s.opn=true) (cQ:¬key.toList=[]) (hk:key.size≤300) (hn:val.length≤8192) (M0:Nat→Prop) (hv:Sl w M0 v val):
  Calls Tryz.prog 49 #[.pointer (some ⟨p,0,none⟩), .string key,v] w fun e w'=>e= .returned (.int .i64 (J.add s ⟨key.data.toList,val,false⟩).2)∧∃M',bt w' p M' (J.add s ⟨key.data.toList,val,false⟩).1∧Step M M' w w':=by
 have HS:=aa (kZ p M s true w h);have HC:=aa (tD v val w M0 hv (by omega));have HH:=aa h;have HO:=aa ho;obtain⟨A,c,rfl⟩:=hv.dg;have jB:¬(300:Int)<(key.size:Int):=by omega
 have F9:¬(8192:Int)<(val.length:Int):=by omega
 have hk3:key.toList.isEmpty=false:=by simpa using cQ
 clear ho h hv;go_enter Tryz.func49,Tryz.ntmps49;go_wp2_with fail;refine HS.out.mono ?_;rintro e w1 ⟨rfl,rfl⟩;rw[HO.out];go_wp2_with fail
 all_goals first|(exfalso;exact absurd (by assumption) cQ)|skip
 refine HC.out.mono ?_;rintro e w1 ⟨v1,rfl,hs1,hb1⟩;have hs2:cE w1 (fun k=>M k∧k<w.heap.size) v1 val:=hs1.weak (fun k h=>h.2);have hst:bt w1 p (fun k=>M k∧k<w.heap.size) s:=HH.out.cap.below hb1;obtain⟨A1,rfl⟩:=hs2.dg;have VF:Step (fun k=>M k∧k<w.heap.size) (fun k=>M k∧k<w.heap.size) w w1:=Step.aH hb1;have rf:=aa hs2;have HST:=aa hst;have VG:=aa VF;clear hs1 hb1 hs2 hst VF;have fR:key.data.toList.length=key.size:=rfl;have cA:(⟨key.data.toList,val,false⟩:J.cn).len=3+key.size+(4+val.length):=by simp[J.cn.len,fR]
 have jw:=aa cA;clear cA fR;go_wp2_with fail;by_cases hroom:4194304 - s.size<3+key.size+(4+val.length)
 ·refine(yu p _ s key A1 val.length val.length false w1 HST.out (by omega) (by omega) (by simpa using hroom)).mono ?_;rintro e w2 ⟨rfl,hs,hst⟩;have hres:J.add s ⟨key.data.toList,val,false⟩=({s with spoilt:=true},9):=(by unfold J.add;rw[jw.out,if_pos hroom]);have HF:=aa hs;have HG:=aa hst;have HR:=aa hres;clear hs hst hres hroom;go_wp2_with fail;go_ret;rw[HR.out];exact⟨rfl,_,HF.out,(VG.out.trans HG.out).yJ⟩
 ·refine(J6 p _ s key A1 val.length val.length val w1 HST.out (by omega) (by omega) rf.out (by omega) HO.out).mono ?_;rintro e w2 ⟨rfl,M',hs,hst⟩;have hres:(J.add s ⟨key.data.toList,val,false⟩).2=0:=(by unfold J.add;rw[jw.out,if_neg hroom]);have HF:=aa hs;have HG:=aa hst;have HR:=aa hres;clear hs hst hres hroom;go_wp2_with fail;go_ret;rw[HR.out];exact⟨rfl,_,HF.out,(VG.out.trans HG.out).yJ⟩
theorem Bg (p:Nat) (M:Nat→Prop) (s:J.St) (key:ByteArray) (w:World) (h:bt w p M s) (hk:key.size≤1000):
  Calls Tryz.prog 48 #[.pointer (some ⟨p,0,none⟩), .string key] w fun e w'=>e= .returned (.int .i64 (J.delete s key.data.toList).2)∧∃M',bt w' p M' (J.delete s key.data.toList).1∧Step M M' w w':=by
 have HS:=aa (kZ p M s true w h);have HH:=aa h;obtain⟨bn,bw,ch,wr,b0,b1,b2,b3,d0,d1,d2,d3,h1,h2,h3,h4⟩:=h;obtain⟨D,hown,nT,nW,hval⟩:=h3.now;have X4:=aa nW;have Tf:=aa hown;have hkey:keyOf Tryz.prog 9 (.string key)=some (.string key.data.toList):=keyOf_string_mk Tryz.underlying9 (by unfold maxLen;omega);have HK:=aa hkey;have hc:=fun j=>ag w p j _ _ _ h1;clear h1 h2 h3 h4 hown nT nW hval hkey;go_enter Tryz.func48,Tryz.ntmps48;go_wp2_with fail;refine HS.out.mono ?_;rintro e w1 ⟨rfl,rfl⟩;cases ho:s.opn with
 |false=>
  have hres:J.delete s key.data.toList=(s,6):=(by unfold J.delete;rw[if_pos ho]);have HR:=aa hres;clear hres;go_wp2_with fail;go_ret;rw[HR.out];exact⟨rfl,M,HH.out,Step.refl _ _⟩
 |true=>
  have HO:=aa ho;rw[ho]at hc;clear ho;go_wp2_with (at_lookup;refine wpList_lookup_own_ok _ rfl _ _ 94 rfl 9 40 p3 Tryz.underlying94 dm (Gh _) .nil [] rfl bn _ D rfl Tf.out _ _ rfl HK.out ?_);intro v ps hv;clear hv;rw[X4.out];cases hl:J.look s.now key.data.toList with
  |none=>
   have hres:J.delete s key.data.toList=(s,7):=(by unfold J.delete;rw[if_neg (by rw[HO.out];simp),if_pos hl]);have HR:=aa hres;clear hres hl;go_wp2_with fail;go_ret;rw[HR.out];exact⟨rfl,M,HH.out,Step.refl _ _⟩
  |some l=>
   have hres:J.delete s key.data.toList=J.add s ⟨key.data.toList,[],true⟩:=(by unfold J.delete;rw[if_neg (by rw[HO.out];simp),if_neg (by rw[hl];simp)]);have fR:key.data.toList.length=key.size:=rfl;have cA:(⟨key.data.toList,[],true⟩:J.cn).len=3+key.size:=(by simp[J.cn.len,fR]);have HR:=aa hres;have jw:=aa cA;clear hres hl fR cA;go_wp2_with fail;by_cases hroom:4194304 - s.size<3+key.size
   ·refine(yu p M s key none 0 0 true w HH.out (by omega) (by omega) (by simpa using hroom)).mono ?_;rintro e w2 ⟨rfl,hs,hst⟩;have hres:J.add s ⟨key.data.toList,[],true⟩=({s with spoilt:=true},9):=(by unfold J.add;rw[jw.out,if_pos hroom]);have HF:=aa hs;have HG:=aa hst;have dc:=aa hres;clear hs hst hres hroom;go_wp2_with fail;go_ret;rw[HR.out,dc.out];exact⟨rfl,_,HF.out,HG.out⟩
   ·refine(Gy p M s key w HH.out (by omega) (by omega) HO.out).mono ?_;rintro e w2 ⟨rfl,M',hs,hst⟩;have hres:(J.add s ⟨key.data.toList,[],true⟩).2=0:=(by unfold J.add;rw[jw.out,if_neg hroom]);have HF:=aa hs;have HG:=aa hst;have dc:=aa hres;clear hs hst hres hroom;go_wp2_with fail;go_ret;rw[HR.out,dc.out];exact⟨rfl,_,HF.out,HG.out⟩
structure lu (w w':World) (M:Nat→Prop) (v v':Value) (l:List UInt8):Prop where
 own:w'.ownsRow 0 5 1 v' l.length (dy l)
 os:w'.os=w.os
 tape:w'.tape=w.tape
 output:w'.output=w.output
 size:w.heap.size≤w'.heap.size
 block:∀k,k<w.heap.size→¬(M k∧v.ownBlock=some k)→w'.heap[k]? =w.heap[k]?
 row:∀k,v'.ownBlock=some k→k<w.heap.size→M k∧v.ownBlock=some k
theorem sr (w:World) (M:Nat→Prop) (v:Value) (l:List UInt8) (h:jW w M v l) (M2:Nat→Prop) (A:Option Addr) (m c:Nat) (x:List UInt8) (hx:By w M2 A m x) (h0:0<m) (hb:l.length+m≤100000000) (ty:TypeId):
  ∃v' w',(Builtin.append_ #[40,40] ty #[v, .slice A m c]).run Tryz.prog w= .ok v' w'∧lu w w' M v v' (l++x):=by
 have Fs:x.length=m:=hx.1;have own:(w.ownsRow 0 5 1 v l.length (dy l)∧∀k,v.ownBlock=some k→M k)→∃v' w',(Builtin.append_ #[40,40] ty #[v, .slice A m c]).run Tryz.prog w= .ok v' w'∧lu w w' M v v' (l++x):=by
  rintro⟨h1,h2⟩;obtain⟨v',w',hr,g1,g2,g3,_⟩:=ku w 0 v l.length l h1 M2 A m c x hx hb (Nat.zero_le _) ty;refine⟨v',w',hr,by rw[List.length_append,Fs];exact g1,g2.os,g2.tape,g2.output,g2.size,fun k hk hn=>g2.block k hk (fun e=>hn ⟨h2 k e.symm,e.symm⟩),fun k e hk=> ?_⟩;rcases g3 with g3|g3
  ·exact⟨h2 k (g3▸e),g3▸e⟩
  ·rw[g3]at e;injection e with e;omega
 rcases h with h|⟨rfl,rfl⟩|⟨b,o,rfl,hm,hbl,hM,hy⟩
 ·exact own h
 ·exact own ⟨World.ownsRow_nil _ _ _ _,fun k e=>by cases e⟩
 ·obtain⟨i0,hi,hz0,hz1,hz2⟩:=info_parts Tryz.CS;obtain⟨ad,rfl,_,_,hc⟩:=hx.at_ h0;have holds:∀j u,(dy l)[j]? =some u→w.cell? ((⟨b,o,none⟩:Addr).add j)=some u:=by
   intro j u hu;have hj:j<l.length:=by
    by_cases hj:j<l.length
    ·exact hj
    ·rw[List.getElem?_eq_none (by rw[iU];omega)]at hu;cases hu
   rw[sO l j hj]at hu;injection hu with hu;rw[←hu];obtain⟨b',o',e,_,_,cA⟩:=hy.2 (by omega);injection e with e;injection e with e1 e2;subst e1 e2;rw[lq];exact cA j hj
  have hnews:∀j u,(dy x)[j]? =some u→w.cell? (ad.add j)=some u:=by
   intro j u hu;have hj:j<x.length:=by
    by_cases hj:j<x.length
    ·exact hj
    ·rw[List.getElem?_eq_none (by rw[iU];omega)]at hu;cases hu
   rw[sO x j hj]at hu;injection hu with hu;rw[←hu];exact hc j hj
  have sN:=grownCap_ge w (l.length+m) l.length 5;have hcm:grownCap w (l.length+m) l.length 5≤maxLen:=grownCap_le_maxLen w (l.length+m) l.length 5 (by unfold maxLen;omega);have hr:=run_append_grow (P:=Tryz.prog) w 40 ty 5 i0 (.int .u8 0) Tryz.underlying40 hi hz0 ⟨b,o,none⟩ l.length l.length (dy l) (by rw[iU,hz1,Nat.mul_one]) holds ad m c (dy x) (by rw[iU,hz1,Fs,Nat.mul_one]) hnews (by omega) (by omega) (by rw[hz2];exact growslice_fits (by omega) (by omega));refine⟨_,_,hr, ?_,rfl,rfl,rfl,by simp,fun k hk _=>heap_alloc_old w.drew _ hk,fun k e hk=> ?_⟩
  ·have hlen:(dy (l++x)).length=(l.length+m)*1:=(by rw[iU,List.length_append,Fs,Nat.mul_one]);rw[show(l++x).length=l.length+m by rw[List.length_append,Fs]];refine⟨hlen, .inr ⟨w.heap.size,_,_,rfl,Nat.zero_le _,heap_alloc_new w.drew _,sN,hcm, ?_, ?_⟩⟩
   ·have hcs:(Value.int .u8 0).cells.size=1:=rfl;simp only[Array.size_append,List.size_toArray,size_zeroCells,hcs,iU,Fs,Nat.mul_one];omega
   ·simp only[Array.toList_append,List.append_assoc];rw[←List.append_assoc,←wO];rw[show(l.length+m)*1=(dy (l++x)).length from hlen.symm];exact List.take_left
  ·simp[Value.ownBlock]at e;omega
theorem Tryz.PD:(Tryz.prog.info? 139).map (fun i=>(i.zero,i.size,i.bytes))=some (some (.agg #[.int .u8 0, .int .i64 0, .slice none 0 0]),3,40):=by kernel_rfl
theorem wW (L:List J.Wr) (vs:List Value) (wr:J.Wr) (x:Value) (h:vs.length=L.length):iV (L++[wr]) (vs++[x])=iV L vs++[.int .u8 (wr.kind:Nat), .int .i64 (wr.idx:Nat),x]:=by
 unfold iV;rw[List.zip_append h.symm];simp
def cp (w:World) (p:Nat) (M:Nat→Prop) (s:J.St):Prop:=
 ∃(bn:Nat) (bw:Option Nat) (ch wr b0 b1 b2 b3 d0 d1 d2 d3:Value),
  w.heap[p]? =some (.cells (bC s bn bw ch wr b0 b1 b2 b3 d0 d1 d2 d3) 99 (0,0))∧M p∧bZ w M s bn bw ch wr b0 b1 b2 b3 d0 d1 d2 d3
theorem bt.q {w:World} {p:Nat} {M:Nat→Prop} {s:J.St} (h:bt w p M s):cp w p M s∧Ok s:=by
 obtain⟨bn,bw,ch,wr,b0,b1,b2,b3,d0,d1,d2,d3,h1,h2,h3,h4⟩:=h;exact⟨⟨bn,bw,ch,wr,b0,b1,b2,b3,d0,d1,d2,d3,h1,h2,h3⟩,h4⟩
theorem cp.r {w:World} {p:Nat} {M:Nat→Prop} {s:J.St} (h:cp w p M s) (h4:Ok s):bt w p M s:=by
 obtain⟨bn,bw,ch,wr,b0,b1,b2,b3,d0,d1,d2,d3,h1,h2,h3⟩:=h;exact⟨bn,bw,ch,wr,b0,b1,b2,b3,d0,d1,d2,d3,h1,h2,h3,h4⟩
theorem cp.below {w w':World} {p:Nat} {M:Nat→Prop} {s:J.St} (h:cp w p M s) (hb:Below w.heap.size w w'):cp w' p M s:=by
 obtain⟨bn,bw,ch,wr,b0,b1,b2,b3,d0,d1,d2,d3,h1,h2,h3⟩:=h;exact⟨bn,bw,ch,wr,b0,b1,b2,b3,d0,d1,d2,d3,(hb.block p (ah h1).1).trans h1,h2,h3.below hb⟩
theorem cp.lt {w:World} {p:Nat} {M:Nat→Prop} {s:J.St} (h:cp w p M s):p<w.heap.size∧M p:=by
 obtain⟨bn,bw,ch,wr,b0,b1,b2,b3,d0,d1,d2,d3,h1,h2,_⟩:=h;exact⟨(ah h1).1,h2⟩
theorem cp.cap {w:World} {p:Nat} {M:Nat→Prop} {s:J.St} (h:cp w p M s):cp w p (fun k=>M k∧k<w.heap.size) s:=by
 have hl:=h.lt.1;obtain⟨bn,bw,ch,wr,b0,b1,b2,b3,d0,d1,d2,d3,h1,h2,h3⟩:=h;exact⟨bn,bw,ch,wr,b0,b1,b2,b3,d0,d1,d2,d3,h1,⟨h2,hl⟩,h3.keep ⟨rfl,rfl,rfl,aj _,fun _ _ _=>rfl,fun _ _ h=>h.1⟩ (fun k hk hm _=>⟨⟨hm,hk⟩,rfl⟩)⟩
section
variable {w w' : World} {M M' : Nat → Prop} {s : J.St} {bn : Nat} {bw : Option Nat} {ch wr b0 b1 b2 b3 d0 d1 d2 d3 : Value}
theorem nU.push {W w1:World} {v v' x:Value} {L:List J.Wr} {c:J.Wr} {vs:List Value} (h1:vs.length=L.length) (h3:∀i (h:i<L.length) (h':i<vs.length),Sl w M vs[i] L[i].bs) (hm:∀k,v.ownBlock=some k→M k)
  (hb:Below w.heap.size w W) (hown:w1.ownsRow 0 139 3 v' (L.length+1) (iV L vs++[.int .u8 (c.kind:Nat), .int .i64 (c.idx:Nat),x])) (hg:W.grownBy w1 v.ownBlock) (hl:v'.ownBlock=v.ownBlock∨v'.ownBlock=some W.heap.size)
  (hx:Sl w M x c.bs):nU w1 (fun k=>M k∨v'.ownBlock=some k) v' (L++[c])∧Step M (fun k=>M k∨v'.ownBlock=some k) w w1:=by
 have hs:Step M (fun k=>M k∨v'.ownBlock=some k) w w1:=by
  refine⟨hg.os.trans hb.os,hg.tape.trans hb.tape,hg.output.trans hb.output,au hb.size hg.size,fun k hk hn=> ?_,fun k hk e=> ?_⟩
  ·exact(hg.block k (aq hk hb.size) (fun e=>hn (hm k e.symm))).trans (hb.block k hk)
  ·rcases e with e|e
   ·exact e
   ·rcases hl with e'|e'
    ·exact hm k (e'▸e)
    ·rw[e']at e;injection e with e;have:=hb.size;omega
 refine⟨⟨vs++[x],by simp[h1], ?_,fun k e=> .inr e,fun i hi hi'=> ?_⟩,hs⟩
 ·rw[wW _ _ _ _ h1];simpa using hown
 ·by_cases e:i<L.length
  ·rw[List.getElem_append_left e,List.getElem_append_left (by omega)];exact(h3 i e (by omega)).step hs
  ·have:i=L.length:=(by simp at hi;omega);subst this;rw[List.getElem_append_right (by omega),List.getElem_append_right (by omega)];simp only[h1,Nat.sub_self,List.getElem_singleton];exact hx.step hs
theorem bZ.Nj {L:List J.Wr} {v':Value} {n:Nat} (h:bZ w M s bn bw ch wr b0 b1 b2 b3 d0 d1 d2 d3) (hs:Step M M' w w') (ie:∀k,M k→M' k) (hg:∀k,k<w.heap.size→wr.ownBlock≠some k→w'.heap[k]? =w.heap[k]?) (hc:nU w' M' v' L):
  bZ w' M' {s with writes:=L,logged:=n} bn bw ch v' b0 b1 b2 b3 d0 d1 d2 d3:=by
 obtain⟨vs,g1,g2,g3,g4⟩:=h.wrs;have hrow:∀{e:TypeId} {v:Value} {base size n:Nat} {xs:List Value},e≠139→w.ownsRow base e size v n xs→∀k,v.ownBlock=some k→wr.ownBlock≠some k:=by
  intro e v base size n xs he hr k hk gX;rcases g2.2 with⟨rfl,_⟩|⟨g',cap,cur,rfl,_,hh,_⟩
  ·simp[Value.ownBlock]at gX
  ·have:g'=k:=(by simpa [Value.ownBlock] using gX);subst this;exact bX hr hh he hk
 have lL:∀{v:Value} {l:List UInt8},jW w M v l→∀k,v.ownBlock=some k→wr.ownBlock≠some k:=by
  intro v l ha k hk;rcases ha with⟨h1,_⟩|⟨rfl,_⟩|⟨b,o,rfl,_,hb,hy,_⟩
  ·exact hrow (by decide) h1 k hk
  ·cases hk
  ·simp[Value.ownBlock]at hk;subst hk;exact fun e=>hy (g3 _ e)
 refine⟨h.now.step hs (hg bn h.now.lt (ja g2 h.now)),ie _ h.mbn, ?_,h.chs.keep hs h.mch (fun k e=> ?_),fun k e=>ie _ (h.mch k e),hc,h.f0.step hs,h.f1.step hs,h.f2.step hs,h.f3.step hs,h.e0.step hs,h.e1.step hs,
  h.e2.keep hs (fun k _ m=>ie k m) (fun k e _=>hg k (iW h.e2 k e) (lL h.e2 k e)),h.e3.keep hs (fun k _ m=>ie k m) (fun k e _=>hg k (iW h.e3 k e) (lL h.e3 k e)),
  fun k e2 e3 m=>h.dd k e2 e3 (hs.sub k (iW h.e2 k e2) m)⟩
 ·cases bw with
  |none=>exact h.was
  |some b=>obtain⟨q1,q2,q3,q4⟩:=h.was;exact⟨q1,q2.step hs (hg b q2.lt (ja g2 q2)),ie _ q3,q4⟩
 ·obtain⟨L5,_,h2,_⟩:=h.chs;exact hg k (h2.lt k e).2 (hrow (by decide) h2 k e)
theorem lN {v v2:Value} {l:List UInt8} {e:TypeId} {base size n:Nat} {xs:List Value} (ha:jW w M v l) (h2:w.ownsRow base e size v2 n xs) (he:e≠5) (hm:∀k,v2.ownBlock=some k→M k):∀k,v2.ownBlock=some k→¬(M k∧v.ownBlock=some k):=by
 rintro k e2 ⟨mk,e1⟩;rcases ha with⟨h1,_⟩|⟨rfl,_⟩|⟨b,o,rfl,_,hb,hy,_⟩
 ·rcases h1.2 with⟨rfl,_⟩|⟨g',cap,cur,rfl,_,hh,_⟩
  ·cases e1
  ·have:g'=k:=(by simpa [Value.ownBlock] using e1);subst this;exact bX h2 hh he e2
 ·cases e1
 ·simp[Value.ownBlock]at e1;subst e1;exact hy mk
theorem bZ.Nk {l:List UInt8} {v':Value} (h:bZ w M s bn bw ch wr b0 b1 b2 b3 d0 d1 d2 d3) (ha:lu w w' M d2 v' l):
  bZ w' (fun k=>M k∨v'.ownBlock=some k) {s with disk:={s.disk with a0:=l}} bn bw ch wr b0 b1 b2 b3 d0 d1 v' d3∧Step M (fun k=>M k∨v'.ownBlock=some k) w w':=by
 have hs:Step M (fun k=>M k∨v'.ownBlock=some k) w w':=⟨ha.os,ha.tape,ha.output,ha.size,fun k hk hn=>ha.block k hk (fun e=>hn e.1),fun k hk e=>e.elim id (fun e=>(ha.row k e hk).1)⟩;have ie:∀k,M k→M k∨v'.ownBlock=some k:=fun k=> .inl;have hmap:∀{b:Nat} {m:List (J.B×J.B)},dp w M b m→M b→¬(M b∧d2.ownBlock=some b):=fun hm mb e=>lM h.e2 hm mb e.2;refine⟨⟨h.now.step hs (ha.block bn h.now.lt (hmap h.now h.mbn)),ie _ h.mbn, ?_,h.chs.keep hs h.mch (fun k e=> ?_),fun k e=>ie _ (h.mch k e),h.wrs.keep hs (fun k e=> ?_) (fun k e=> ?_),h.f0.step hs,h.f1.step hs,h.f2.step hs,h.f3.step hs,h.e0.step hs,h.e1.step hs,
  .inl ⟨ha.own,fun k e=> .inr e⟩,h.e3.keep hs (fun k _ m=>ie k m) (fun k e m=>ha.block k (iW h.e3 k e) (fun e2=>h.dd k e2.2 e m)),fun k e2 e3 m=> ?_⟩,hs⟩
 ·cases bw with
  |none=>exact h.was
  |some b=>obtain⟨q1,q2,q3,q4⟩:=h.was;exact⟨q1,q2.step hs (ha.block b q2.lt (hmap q2 q3)),ie _ q3,q4⟩
 ·obtain⟨L5,_,h2,_⟩:=h.chs;exact ha.block k (h2.lt k e).2 (lN h.e2 h2 (by decide) h.mch k e)
 ·obtain⟨L5,_,_,h2,_⟩:=h.wrs;exact ie _ (h2 k e)
 ·obtain⟨L5,_,h2,hm,_⟩:=h.wrs;exact ha.block k (h2.lt k e).2 (lN h.e2 h2 (by decide) hm k e)
 ·have hk:=iW h.e3 k e3;have:=ha.row k e2 hk;exact h.dd k this.2 e3 this.1
theorem bZ.Nl {l:List UInt8} {v':Value} (h:bZ w M s bn bw ch wr b0 b1 b2 b3 d0 d1 d2 d3) (ha:lu w w' M d3 v' l):
  bZ w' (fun k=>M k∨v'.ownBlock=some k) {s with disk:={s.disk with a1:=l}} bn bw ch wr b0 b1 b2 b3 d0 d1 d2 v'∧Step M (fun k=>M k∨v'.ownBlock=some k) w w':=by
 have hs:Step M (fun k=>M k∨v'.ownBlock=some k) w w':=⟨ha.os,ha.tape,ha.output,ha.size,fun k hk hn=>ha.block k hk (fun e=>hn e.1),fun k hk e=>e.elim id (fun e=>(ha.row k e hk).1)⟩;have ie:∀k,M k→M k∨v'.ownBlock=some k:=fun k=> .inl;have hmap:∀{b:Nat} {m:List (J.B×J.B)},dp w M b m→M b→¬(M b∧d3.ownBlock=some b):=fun hm mb e=>lM h.e3 hm mb e.2;refine⟨⟨h.now.step hs (ha.block bn h.now.lt (hmap h.now h.mbn)),ie _ h.mbn, ?_,h.chs.keep hs h.mch (fun k e=> ?_),fun k e=>ie _ (h.mch k e),h.wrs.keep hs (fun k e=> ?_) (fun k e=> ?_),h.f0.step hs,h.f1.step hs,h.f2.step hs,h.f3.step hs,h.e0.step hs,h.e1.step hs,
  h.e2.keep hs (fun k _ m=>ie k m) (fun k e m=>ha.block k (iW h.e2 k e) (fun e2=>h.dd k e e2.2 m)), .inl ⟨ha.own,fun k e=> .inr e⟩,fun k e2 e3 m=> ?_⟩,hs⟩
 ·cases bw with
  |none=>exact h.was
  |some b=>obtain⟨q1,q2,q3,q4⟩:=h.was;exact⟨q1,q2.step hs (ha.block b q2.lt (hmap q2 q3)),ie _ q3,q4⟩
 ·obtain⟨L5,_,h2,_⟩:=h.chs;exact ha.block k (h2.lt k e).2 (lN h.e3 h2 (by decide) h.mch k e)
 ·obtain⟨L5,_,_,h2,_⟩:=h.wrs;exact ie _ (h2 k e)
 ·obtain⟨L5,_,h2,hm,_⟩:=h.wrs;exact ha.block k (h2.lt k e).2 (lN h.e3 h2 (by decide) hm k e)
 ·have hk:=iW h.e2 k e2;have:=ha.row k e3 hk;exact h.dd k e2 this.2 this.1
end
end Go.Proofs.YtipljcmmokaokaaGreat
namespace Go.Proofs.YtipljcmmokaokaaGreat
open Go.RowKit Go.Lib Go.Maps Go.WideMaps Go.Sort Go.Shelf
set_option maxRecDepth 100000
attribute [local go_sem] Oper.semAt_some
def Bh (C:World→Nat→Prop) (W W':World):Prop:=
 (∀k o,W.heap[k]? =some o→o.isCells=true→¬C W k→W'.heap[k]? =some o)∧W.heap.size≤W'.heap.size∧∀k,k<W.heap.size→C W' k→C W k
theorem Bh.t {C:World→Nat→Prop} {A B D:World} (h:Bh C A B) (k:Bh C B D):Bh C A D:=
 ⟨fun j o ho hc hn=>k.1 j o (h.1 j o ho hc hn) hc (fun hcb=>hn (h.2.2 j (ah ho).1 hcb)),au h.2.1 k.2.1,fun j hj hd=>h.2.2 j hj (k.2.2 j (aq hj h.2.1) hd)⟩
def keysOf (m:List (J.B×J.B)) (pre:ByteArray):List J.B:=(m.map (·.1)).filter fun k=>Lib.hasPrefix k pre.data.toList
theorem lx (m:List (J.B×J.B)) (pre:ByteArray):(keysOf m pre).length≤m.length:=by
 have:=List.length_filter_le (fun k=>Lib.hasPrefix k pre.data.toList) (m.map (·.1));rw[List.length_map]at this;exact this
theorem vg {m:List (J.B×J.B)} (h:J.qR m) (pre:ByteArray) {ss:List J.B} (hp:ss.Perm (m.map (·.1))):(ss.filter fun k=>Lib.hasPrefix k pre.data.toList).mergeSort (fun x y=>decide (x≤y))=keysOf m pre:=by
 rw[mergeSort_of_perm (hp.filter _)];refine List.mergeSort_of_pairwise (List.Pairwise.filter _ ?_);rw[List.pairwise_map];exact List.Pairwise.imp (fun {a b} hab=>by simpa using List.le_of_lt hab) h
theorem Tryz.L9:(Tryz.prog.info? 9).map (fun i=>(i.zero,i.size,i.bytes))=some (some (.string ⟨#[]⟩),1,16):=by kernel_rfl
theorem oh {w w':World} (h:Below w.heap.size w w'):w.grownBy w' none:=
 ⟨h.os,h.tape,h.output,h.size,fun k hk _=>h.block k hk⟩
theorem DT {w:World} {base n size:Nat} {e:TypeId} {v:Value} {xs:List Value} (h:w.ownsRow base e size v n xs):∀g,v.ownBlock=some g→∃o,w.heap[g]? =some o∧o.isCells=true:=by
 intro g hg;rcases h.2 with⟨rfl,_⟩|⟨g',cap,cur,rfl,_,hh,_⟩
 ·cases hg
 ·have:g'=g:=(by simpa [Value.ownBlock] using hg);subst this;exact⟨_,hh,rfl⟩
theorem Bi (n:Nat) (hn:1≤n) (l Bs Bp p b:Nat) (pre:ByteArray) (m:List (J.B×J.B)) (M:Nat→Prop) (C:World→Nat→Prop) (Jv Jx:List J.B→World→Prop) (wX:m.length≤100000000)
  (hY:∀xs x W,Jv xs W→xs.length<(keysOf m pre).length→YieldAt Fence.wide (n - 1) Tryz.prog l #[encStr x] W fun e W'=>(e= .returned (.bool true)∧Jv (xs++[x]) W'∧Bh C W W')∨(e= .returned (.bool false)∧Jx (xs++[x]) W'))
  (W:World) (hJ:AbidesFrom W.heap.size Jv) (hs:W.cell? ⟨Bs,0,none⟩=some (.pointer (some ⟨p,0,none⟩))) (hp:W.cell? ⟨Bp,0,none⟩=some (.string pre)) (hrow:W.cell? ⟨p,2,none⟩=some (.map (some b))) (hm:dp W M b m)
  (hC:∀W',Below W.heap.size W W'→∀k,C W' k→k<W.heap.size) (h0:Jv [] W):
  CallsIn Fence.wide n Tryz.prog 132 #[.func (.yield l) #[] #[], .pointer (some ⟨Bs,0,none⟩), .pointer (some ⟨Bp,0,none⟩)] W fun e W'=>(∃v,e= .returned v)∧
   ((∃ys,ys=keysOf m pre∧Jv ys W')∨(∃q,q<+:keysOf m pre∧Jx q W')):=by
 obtain⟨i0,hi,hz0,hz1,hz2⟩:=info_parts Tryz.L9;have Fu:=hm;obtain⟨D,hown,nT,nW,hval⟩:=hm;have hbl:=hown.lt;have hsz:Maps.size D=m.length:=Fu.size_eq hown nW;have HM:=aa Fu;have wV:=aa hsz;have HH:=aa nW;have HOW:=aa hown;have HY:=aa hY;have HC:=aa hC;have HJ:=aa hJ;have H0:=aa h0;have HA:=aa nT;clear hval Fu nW hsz hY hC hJ h0 nT;have VH:Bp<W.heap.size:=World.block_lt_of_cell? W ⟨Bp,0,none⟩ hp;refine callsIn_of_wp Tryz.func132 rfl trivial ?_ rfl;simp only[Tryz.ntmps132,List.size_toArray,List.length_cons,List.length_nil,Nat.reduceAdd,Nat.reduceSub,Array.replicate_succ,Array.replicate_zero,List.push_toArray,List.append_toArray,List.nil_append,List.cons_append]
 gi_wp2_with (first
  |(gi_at_range;refine wpListIn_range_own _ rfl _ 94 rfl 9 40 p3 Tryz.underlying94 _ b (Maps.size D) _ rfl hown ?_;intro w0 hrg0 hg0 hs0)
  |gi_in)
 go_frame
 gi_loopw [4] (fun lv wr=>∃(left:Lit→Bool) (cnt:Nat) (ss:List J.B),wr.ranges Tryz.prog 9 dm b W.heap.size (Maps.size D) D left cnt∧ss.length+cnt≤m.length∧
   wr.ownsRow W.heap.size 9 1 lv (ss.filter fun k=>Lib.hasPrefix k pre.data.toList).length ((ss.filter fun k=>Lib.hasPrefix k pre.data.toList).map encStr)∧Collected D left ss∧Below W.heap.size W wr)
  (fun _ wr=>wr.rangeLeft b W.heap.size)
 case atStart=>
  exact⟨_,_,[],hrg0,by have:=wV.out;simp;omega,World.ownsRow_nil _ _ _ _,Collected.start D,(ai _ W).grown hg0 (aj _) (fun j hj=>by cases hj)⟩
 case round=>
  obtain⟨left,cnt,ss,hrg,hcs,hrow2,Nn,hB⟩:=hrel;have VI:Jv [] wr:=HJ.out [] W wr none H0.out (oh hB) (fun r e=>by cases e);have o8:wr.cell? ⟨Bp,0,none⟩=some (.string pre):=(hB.cell (p:=⟨Bp,0,none⟩) VH).trans hp;have HB:=aa hB;have X5:=aa VI;clear VI hB
  gi_wp2_with (first
   |(gi_at_next;refine wpListIn_next_ranges _ rfl _ rfl 9 p3 dm encStr id (fun key kl hk=>by obtain⟨x,hx,_⟩:=Maps.keyOf_str Tryz.underlying9 hk;exact⟨x,hx⟩) (fun v y hv=>⟨v,rfl⟩) b W.heap.size (Maps.size D) _ _ _ rfl hrg ?_ ?_)
   |gi_in)
  ·intro hc0 hl0;have Ma:ss.Perm (m.map (·.1)):=(Nn.perm HOW.out p3 Tryz.underlying9 hl0).trans (HM.out.perm D _ HOW.out HH.out).symm;have PE:=vg HA.out pre Ma;have HS:=aa PE;clear Ma PE;rcases hrow2.2 with⟨rfl,CT⟩|⟨g,cap,cur,rfl,hbase,hbk,h1,h2,h3,h4⟩
   ·have cQ:keysOf m pre=[]:=by
     have:=congrArg List.length HS.out;rw[List.length_mergeSort,CT]at this;exact List.eq_nil_of_length_eq_zero this.symm
    have tS:=aa cQ;clear cQ hrg hcs hrow2 Nn hc0 hl0 CT
    gi_wp2_with fail
    refine⟨trivial,(callsIn_wide.2 (Tryz.slices_Sort_string_none none 0 wr)).mono ?_⟩;rintro e w3 ⟨rfl,rfl⟩
    gi_wp2
    gi_loopw [28] (fun i W2=>i= .int .i64 0∧Jv [] W2) (fun _ _=>0)
    case atStart=>exact⟨rfl,X5.out⟩
    case round=>
     obtain⟨rfl,hj⟩:=hrel
     gi_wp2
     go_end0;exact⟨⟨_,rfl⟩, .inl ⟨[],tS.out.symm,hj⟩⟩
   ·have hH:Holds encStr wr g 0 (ss.filter fun k=>Lib.hasPrefix k pre.data.toList).toArray:=holds_of_block hbk (by simpa using h4);have z7:g<wr.heap.size:=(ah hbk).1;have Mb:(ss.filter fun k=>Lib.hasPrefix k pre.data.toList).length≤ss.length:=List.length_filter_le _ _;have hc:=Tryz.slices_Sort_string g 0 cap (ss.filter fun k=>Lib.hasPrefix k pre.data.toList) wr hH z7 (by omega);have hlen:(ss.filter fun k=>Lib.hasPrefix k pre.data.toList).length=(keysOf m pre).length:=(by rw[←HS.out];exact(List.length_mergeSort _).symm);have hs2:(ss.filter fun k=>Lib.hasPrefix k pre.data.toList).mergeSort (fun x y=>decide (x≤y))=keysOf m pre:=HS.out;rw[hs2]at hc;have HL:=aa hlen;have qM:=aa (show∀os nn,_ from fun os nn=>ownsRow_sorted (ss:=ss.filter fun k=>Lib.hasPrefix k pre.data.toList) (ts:=keysOf m pre) hlen.symm hbase hbk h1 h2 h3 (os:=os) (n:=nn));have X6:=aa hc;have om:=aa hbase;have VJ:=aa h1;clear hH z7 Mb hc hlen hs2 hrg hcs hrow2 Nn hc0 hl0 hbk h2 h3 h4 hbase h1
    gi_wp2_with fail
    refine⟨trivial,(callsIn_wide.2 X6.out).mono ?_⟩;rintro e w3 ⟨rfl,nn,os,hw3⟩;have cL:=qM.out os nn;have hb3:=HB.out.grown (grownBy_sorted (w:=wr) (g:=g) (n:=nn) (os:=os) (keysOf m pre).toArray) HB.out.size (fun j hj=>by cases hj;exact om.out);rw[←hw3]at cL hb3;rw[HL.out]at cL⊢;have hJ3:Jv [] w3:=HJ.out [] W w3 none H0.out (oh hb3) (fun r e=>by cases e);have VL:¬C w3 g:=fun h=>absurd (HC.out w3 hb3 g h) (by have:=om.out;omega);have lF:=aa cL;have X7:=aa hJ3;have Ts:=aa VL;clear cL hb3 hJ3 VL hw3;have Mc:=lx m pre
    gi_wp2
    gi_loopw [28] (fun i W2=>∃k:Nat,k≤(keysOf m pre).length∧i= .int .i64 k∧Jv ((keysOf m pre).take k) W2∧W2.ownsRow W.heap.size 9 1 (.slice (some ⟨g,0,none⟩) (keysOf m pre).length cap) (keysOf m pre).length ((keysOf m pre).map encStr)∧¬C W2 g) (fun i _=>(keysOf m pre).length - (intOf i).toNat)
    case atStart=>exact⟨0,Nat.zero_le _,rfl,X7.out,lF.out,Ts.out⟩
    case round=>
     obtain⟨k,hk,rfl,hj,ho,Fp⟩:=hrel;have VM:=aa hj;have JL:=aa ho;have VN:=aa Fp;clear hj ho Fp;by_cases hlt:k<(keysOf m pre).length
     ·obtain⟨fn,tmps,assign,body,hy,hR⟩:=HY.out _ ((keysOf m pre)[k]) wr VM.out (by rw[List.length_take];omega);have hcell:wr.cell? ⟨g,k,none⟩=some (encStr ((keysOf m pre)[k])):=by
       have:=JL.out.cellAt k (by omega);show wr.cell? ⟨g,k,none⟩=_;rw[this];simp[hlt]
      have vh:=aa (List.take_succ_eq_append_getElem hlt)
      gi_wp2_with fail
      refine hR.mono ?_;rintro e W4 (⟨rfl,VO,hk4⟩|⟨rfl,Md⟩)
      ·have cA:=DT JL.out g rfl;have VP:W4.heap[g]? =wr.heap[g]? :=(by obtain⟨o,ho,hc⟩:=cA;rw[hk4.1 g o ho hc VN.out,ho]);have VQ:=cY JL.out (w':=W4) (fun k e=>by have:g=k:=(by simpa [Value.ownBlock] using e);subst this;exact VP);have Gn:¬C W4 g:=fun h=>VN.out (hk4.2.2 g (ah cA.choose_spec.1).1 h);have mh:=aa VQ;have Tt:=aa Gn;have X8:=aa VO;clear VQ Gn VO hk4 cA VP
       gi_wp2
       go_roundw
       case rel=>exact⟨k+1,by omega,by go_num,by rw[vh.out];exact X8.out,mh.out,Tt.out⟩
       case measure=>simp[intOf];omega
      ·have Np:=aa Md;clear Md
       gi_wp2
       refine bodyPost_ret (results_none rfl _ _ _) rfl ?_;exact⟨⟨_,rfl⟩, .inr ⟨_,List.take_prefix (k+1) _,by rw[vh.out];exact Np.out⟩⟩
     ·obtain rfl:k=(keysOf m pre).length:=(by omega);have hj':=VM.out;rw[List.take_length]at hj';have PF:=aa hj';clear hj'
      gi_wp2
      go_end0;exact⟨⟨_,rfl⟩, .inl ⟨_,rfl,PF.out⟩⟩
  ·intro x c kl yd yp w2 cnt2 hkey hlk hv hat hrg2 hlt hg2 hs2 hen;obtain⟨x',ex,rfl,_⟩:=Maps.keyOf_str Tryz.underlying9 hkey;obtain rfl:x=x':=encStr_inj ex;have hrow3:=hrow2.kept hg2 (Or.inr (row_ne_iter hrow2 hrg).symm);have X9:w2.cell? ⟨Bp,0,none⟩=some (.string pre):=((HB.out.grown hg2 HB.out.size (fun j hj=>by cases hj;exact aj _)).cell (p:=⟨Bp,0,none⟩) VH).trans hp;clear hs2;have OY:=Tryz.strings_HasPrefix ⟨x.toArray⟩ pre w2;have Sg:=List.filter_append (p:=fun k=>Lib.hasPrefix k pre.data.toList) ss [x];cases hb:Lib.hasPrefix x pre.data.toList with
   |false=>
    rw[show Lib.hasPrefix (⟨x.toArray⟩:ByteArray).data.toList pre.data.toList=false from hb]at OY;have uY:(ss++[x]).filter (fun k=>Lib.hasPrefix k pre.data.toList)=ss.filter (fun k=>Lib.hasPrefix k pre.data.toList):=(by rw[Sg];simp[hb]);have J7:=aa uY;have OZ:=aa hrow3;have Me:=aa hrg2;have bB:=aa (HB.out.grown hg2 HB.out.size (fun j hj=>by cases hj;exact aj _));have Ya:=aa (show w2.rangeLeft b W.heap.size<wr.rangeLeft b W.heap.size by rw[hrg2.left_eq,hrg.left_eq];exact hlt);have xS:=aa (Nn.step hlk hat);have yK:=aa OY;clear uY Sg hrow3 hrg2 hg2 hrow2 hrg OY Nn hat
    gi_wp2_with fail
    refine⟨trivial,(callsIn_wide.2 yK.out).mono ?_⟩;rintro e w3 ⟨rfl,hw3⟩;obtain rfl:w2=w3:=hw3.symm
    gi_wp2
    go_roundw
    case rel=>exact⟨_,cnt2,ss++[x],Me.out,by simp;omega,by rw[J7.out];exact OZ.out,xS.out,bB.out⟩
    case measure=>exact Ya.out
   |true=>
    rw[show Lib.hasPrefix (⟨x.toArray⟩:ByteArray).data.toList pre.data.toList=true from hb]at OY;have uY:(ss++[x]).filter (fun k=>Lib.hasPrefix k pre.data.toList)=ss.filter (fun k=>Lib.hasPrefix k pre.data.toList)++[x]:=(by rw[Sg];simp[hb]);have J7:=aa uY;have Mb:(ss.filter fun k=>Lib.hasPrefix k pre.data.toList).length≤ss.length:=List.length_filter_le _ _;have bB:=aa (HB.out.grown hg2 HB.out.size (fun j hj=>by cases hj;exact aj _));have Me:=aa hrg2;have Sh:=aa (show w2.rangeLeft b W.heap.size<wr.rangeLeft b W.heap.size by rw[hrg2.left_eq,hrg.left_eq];exact hlt);have xS:=aa (Nn.step hlk hat);have yK:=aa OY;have OZ:=aa hrow3;clear uY Sg hrow2 hrg hrg2 hg2 OY Nn hat
    gi_wp2_with fail
    refine⟨trivial,(callsIn_wide.2 yK.out).mono ?_⟩;rintro e w3 ⟨rfl,hw3⟩;obtain rfl:w2=w3:=hw3.symm
    gi_wp2_with (first
     |(gi_at_builtin;refine wpListIn_append_own _ rfl _ _ 93 rfl W.heap.size 9 i0 (.string ⟨#[]⟩) 1 16 Tryz.underlying93 hi hz0 hz1 hz2 rfl (by decide) _ _ _ rfl (OZ.out.alloc _) ⟨w2.heap.size,0,none⟩ 1 1 [encStr x] rfl rfl (cell_one_new _ _ _) (by simp[Value.oneCell',encStr]) (by unfold maxLen at*;omega) (by omega) (by have:=bB.out.size;simp;omega) ?_;intro v' w4 hown' hg3 hnil3)
     |gi_in)
    have hb2:Below W.heap.size W (w2.alloc (.cells #[encStr x] 9)):=bB.out.alloc bB.out.size _;have hrg3:=(Me.out.alloc (.cells #[encStr x] 9)).kept hg3 (row_ne_low OZ.out hbl) (row_ne_iter OZ.out Me.out);refine⟨⟨_,cnt2,ss++[x],hrg3,by simp;omega, ?_,xS.out,hb2.grown hg3 hb2.size (fun j hj=>(OZ.out.lt j hj).1)⟩,by rw[hrg3.left_eq,←Me.out.left_eq];exact Sh.out⟩;rw[J7.out]
    simpa using hown'
theorem qa (n:Nat) (hn:1≤n) (Bs Bp p b:Nat) (pre:ByteArray) (m:List (J.B×J.B)) (M:Nat→Prop) (C:World→Nat→Prop) (wX:m.length≤100000000) (w:World)
  (hs:w.cell? ⟨Bs,0,none⟩=some (.pointer (some ⟨p,0,none⟩))) (hp:w.cell? ⟨Bp,0,none⟩=some (.string pre)) (hrow:w.cell? ⟨p,2,none⟩=some (.map (some b))) (hm:dp w M b m)
  (hC:∀W,Below w.heap.size w W→∀k,C W k→k<w.heap.size):
  SeqStopsK Fence.wide n Tryz.prog 132 #[.pointer (some ⟨Bs,0,none⟩), .pointer (some ⟨Bp,0,none⟩)] (fun x=>#[encStr x]) (Bh C) (fun ys=>ys=keysOf m pre) (fun q=>q<+:keysOf m pre) (keysOf m pre).length w:=fun l Jv Jx W hW hJ _ hY h0=>by
 have hc:∀{a:Addr} {v:Value},w.cell? a=some v→W.cell? a=some v:=fun {a v} h=>(hW.cell (p:=a) (World.block_lt_of_cell? w a h)).trans h;exact Bi n hn l Bs Bp p b pre m M C Jv Jx wX hY W hJ (hc hs) (hc hp) (hc hrow) (hm.step (Step.aH hW) (hW.block b hm.lt))
  (fun W' hb k hk=>aq (hC W' (hW.trans (hb.mono hW.size)) k hk) hW.size) h0
theorem tT (a:Value) (pre:ByteArray) (w:World) (ha:∃r,a= .pointer r):
  CallsIn Fence.wide 5 Tryz.prog 101 #[a, .string pre] w fun e w'=>e= .returned (.func (.func 132) #[] #[.pointer (some ⟨w.heap.size,0,none⟩), .pointer (some ⟨w.heap.size+1,0,none⟩)])∧w'=(w.alloc (.cells #[a] 24)).alloc (.cells #[.string pre] 9):=by
 obtain⟨r,rfl⟩:=ha;refine callsIn_of_wp Tryz.func101 rfl trivial ?_ rfl;simp only[Tryz.ntmps101,List.size_toArray,List.length_cons,List.length_nil,Nat.reduceAdd,Nat.reduceSub,Array.replicate_succ,Array.replicate_zero,List.push_toArray,List.append_toArray,List.nil_append,List.cons_append]
 gi_wp2
 go_ret;exact⟨rfl,rfl⟩
attribute [local go_sem] Oper.semAt_some
def Nq (B:Nat) (W:World) (k:Nat):Prop:=k=B∨∃v,Boxed W B 93 v∧v.ownBlock=some k
theorem vP {W:World} {B:Nat} {t:TypeId} {u v:Value} (h:Boxed W B t u) (h':Boxed W B t v):u=v:=by
 have:=(show W.heap[B]? =_ from h).symm.trans h';injection this with e;injection e with e;injection e with e;injection e
theorem Gz {B:Nat} {w:World} (hB:B<w.heap.size) (W:World) (l:Nat) (o o':Obj) (hl:w.heap.size≤l) (h:W.heap[l]? =some o) (hc:o.isCells=false) (_:o.isWalk=false):Bh (Nq B) W (W.putObj l o'):=by
 refine⟨fun k q hq Mf _=> ?_,by simp,fun k _ hk=> ?_⟩
 ·have:k≠l:=fun e=>by subst e;rw[h]at hq;injection hq with hq;subst hq;rw[hc]at Mf;cases Mf
  exact(World.putObj_heap_other this).trans hq
 ·rcases hk with rfl|⟨v,hv,hk⟩
  ·exact .inl rfl
  ·exact .inr ⟨v,(World.putObj_heap_other (by omega)).symm.trans hv,hk⟩
theorem yL {W w1:World} {B:Nat} {v v':Value} {tmp:Obj} (hv:Boxed W B 93 v) (hv2:Boxed (w1.setCell ⟨B,0,none⟩ v') B 93 v') (hg:(W.alloc tmp).grownBy w1 v.ownBlock) (hat:v'.ownBlock=v.ownBlock∨v'.ownBlock=some (W.alloc tmp).heap.size):
  Bh (Nq B) W (w1.setCell ⟨B,0,none⟩ v'):=by
 refine⟨fun k q hq _ hn=> ?_, ?_,fun k hk hc=> ?_⟩
 ·have fR:k<W.heap.size:=(ah hq).1;have h1:k≠B:=fun e=>hn (.inl e);have h2:some k≠v.ownBlock:=fun e=>hn (.inr ⟨v,hv,e.symm⟩);exact(Below.heap_setCell _ _ _ k h1).trans ((hg.block k (by simp;omega) h2).trans ((Below.heap_alloc _ _ _ fR).trans hq))
 ·have:=hg.size;have h2:=(KeepsWalks.setCell w1 ⟨B,0,none⟩ v').size;simp at this;omega
 ·rcases hc with rfl|⟨u,hu,hk2⟩
  ·exact .inl rfl
  ·obtain rfl:=vP hu hv2;rcases hat with e|e
   ·exact .inr ⟨v,hv,e▸hk2⟩
   ·rw[e]at hk2;injection hk2 with hk2;simp at hk2;omega
theorem appendSeq_in (Bs Bp p b:Nat) (pre:ByteArray) (m:List (J.B×J.B)) (M:Nat→Prop) (wX:m.length≤100000000) (w:World)
  (hs:w.cell? ⟨Bs,0,none⟩=some (.pointer (some ⟨p,0,none⟩))) (hp:w.cell? ⟨Bp,0,none⟩=some (.string pre)) (hrow:w.cell? ⟨p,2,none⟩=some (.map (some b))) (hm:dp w M b m):
  CallsIn Fence.wide 5 Tryz.prog 131 #[.slice none 0 0, .func (.func 132) #[] #[.pointer (some ⟨Bs,0,none⟩), .pointer (some ⟨Bp,0,none⟩)]] w fun e w'=>∃v,e= .returned v∧
   w'.ownsRow w.heap.size 9 1 v (keysOf m pre).length ((keysOf m pre).map encStr)∧Below w.heap.size w w':=by
 obtain⟨i0,hi,hz0,hz1,hz2⟩:=info_parts Tryz.L9;have fR:=lx m pre;have Si:Below w.heap.size w (w.alloc (.cells #[.slice none 0 0] 93)):=(ai _ w).alloc (aj _) _;have hc:∀{a:Addr} {v:Value},w.cell? a=some v→(w.alloc (.cells #[.slice none 0 0] 93)).cell? a=some v:=fun {a v} h=>(Si.cell (p:=a) (World.block_lt_of_cell? w a h)).trans h;have bO:=Boxed.new w 93 (.slice none 0 0);have hst:=qa 4 (by omega) Bs Bp p b pre m M (Nq w.heap.size) wX (w.alloc (.cells #[.slice none 0 0] 93)) (hc hs) (hc hp) (hc hrow) (hm.step (Step.aH Si) (Si.block b hm.lt)) (by
  rintro W hW k (rfl|⟨v,hv,hk⟩)
  ·simp
  ·have hv0:Boxed W w.heap.size 93 (.slice none 0 0):=(hW.block w.heap.size (by simp)).trans bO;obtain rfl:=vP hv hv0;cases hk)
 refine callsIn_of_wp_marks Tryz.func131 rfl trivial ?_ rfl;simp only[Tryz.ntmps131,List.size_toArray,List.length_cons,List.length_nil,Nat.reduceAdd,Nat.reduceSub,Array.replicate_succ,Array.replicate_zero,List.push_toArray,List.append_toArray,List.nil_append,List.cons_append]
 gi_wp2
 refine wpIn_rangeFunc_ownF rfl (by omega) (gf:=132) (lb:=#[.pointer (some ⟨Bs,0,none⟩), .pointer (some ⟨Bp,0,none⟩)]) rfl trivial (enters_of Tryz.func132 (by kernel_rfl) rfl)
  hst Bh.t (Gz (by simp)) (ai _ _) (fun _=>rfl)
  (fun pr W=>(∃v,Boxed W w.heap.size 93 v∧W.ownsRow w.heap.size 9 1 v pr.length (pr.map encStr)∧True)∧Below w.heap.size w W)
  (fun _ _ _=>False)
  (OwnFrom.and (Own.from (holdsRow_own w.heap.size w.heap.size 93 9 1 (fun pr:List J.B=>pr.length) (fun pr=>pr.map encStr) (fun _ _=>True)) _) (ownFrom_below (aj _) (by simp)))
  (fun _ _ _ _ _ hs _ _=>hs)
  ⟨⟨_,bO,World.ownsRow_nil _ _ _ _,trivial⟩,Si⟩
  (fun x=>{tmps:=#[.slice none 0 0, .func (.func 132) #[] #[.pointer (some ⟨Bs,0,none⟩), .pointer (some ⟨Bp,0,none⟩)], .pointer (some ⟨w.heap.size,0,none⟩),undef, .slice none 0 0,encStr x, .func (.func 132) #[] #[.pointer (some ⟨Bs,0,none⟩), .pointer (some ⟨Bp,0,none⟩)],encStr x,undef,undef,undef,undef,undef],defers:=[]}) ?assign ?body ?done ?stop
 case assign=>
  intro l x W K hK
  gi_wp2
  exact hK
 case body=>
  rintro l pr x W ⟨⟨v,hv,hrow,_⟩,hB⟩ hlt;have hc:=hv.cell
  gi_wp2_with (gi_at_builtin;refine wpListIn_append_own_at _ rfl _ _ 93 rfl w.heap.size 9 i0 (.string ⟨#[]⟩) 1 16 Tryz.underlying93 hi hz0 hz1 hz2 rfl (by decide) _ _ _ rfl (hrow.alloc _) ⟨W.heap.size,0,none⟩ 1 1 [encStr x] rfl rfl (cell_one_new _ _ _) (by simp[Value.oneCell',encStr]) (by unfold maxLen;omega) (by omega) (by have:=hB.size;simp;omega) ?_;intro v' w1 hown' hgrow _ hat;obtain⟨g',cap',rfl⟩:=ownsRow_succ hown';obtain⟨tU,hv2,hr2,hk2,hb2⟩:=hv.appended (by decide) hrow hB.size (aj _) hown' hgrow;have hc1:=tU.cell;have uY:=tU.frozen)
  exact⟨hk2,yL hv hv2 hgrow hat,⟨_,hv2,by simpa using hr2,trivial⟩,hB.trans hb2⟩
 case done=>
  rintro D ys W hD rfl ⟨⟨v,hv,hrow,_⟩,hB⟩ hK;have hc:=hv.cell
  gi_wp2
  refine⟨by simp, .inl ⟨_,_,rfl,run_takeDeferred hK, ?_⟩⟩;exact⟨_,results_tmp rfl _ _ _,v,rfl,ownsRow_putObj hrow _ hK rfl,hB.trans (belowK_b (w:=w) (aj _) W D _ _ (by simp at hD;omega) hK rfl rfl)⟩
 case stop=>
  rintro D c pr W _ _ h _;exact h.elim
theorem collect_in (Bs Bp p b:Nat) (pre:ByteArray) (m:List (J.B×J.B)) (M:Nat→Prop) (wX:m.length≤100000000) (w:World)
  (hs:w.cell? ⟨Bs,0,none⟩=some (.pointer (some ⟨p,0,none⟩))) (hp:w.cell? ⟨Bp,0,none⟩=some (.string pre)) (hrow:w.cell? ⟨p,2,none⟩=some (.map (some b))) (hm:dp w M b m):
  Calls Tryz.prog 100 #[.func (.func 132) #[] #[.pointer (some ⟨Bs,0,none⟩), .pointer (some ⟨Bp,0,none⟩)]] w fun e w'=>∃v,e= .returned v∧
   w'.ownsRow w.heap.size 9 1 v (keysOf m pre).length ((keysOf m pre).map encStr)∧Below w.heap.size w w':=by
 have H:=aa (callsIn_wide.1 (appendSeq_in Bs Bp p b pre m M wX w hs hp hrow hm));clear hs hp hrow hm;go_enter Tryz.func100,Tryz.ntmps100;go_wp2_with fail;refine H.out.mono ?_;rintro e w' ⟨v,rfl,hown,hb⟩;have HO:=aa hown;have HB:=aa hb;clear hown hb;go_wp2;go_ret;exact⟨v,rfl,HO.out,HB.out⟩
theorem DU (A:Option Addr) (n c:Nat) (w:World) (hc:n≤c) (h:A=none→n=0∧c=0):
  Calls Tryz.prog 99 #[.slice A n c] w fun e w'=>e= .returned (.slice A n n)∧w=w':=by
 cases A with
 |some a=>
  clear h;go_enter Tryz.func99,Tryz.ntmps99;go_wp2;go_ret;exact⟨rfl,rfl⟩
 |none=>
  obtain⟨rfl,rfl⟩:=h rfl;clear h hc;go_enter Tryz.func99,Tryz.ntmps99;go_wp2;go_ret;exact⟨rfl,rfl⟩
def kP (w:World) (A:Option Addr) (ks:List J.B):Prop:=0<ks.length→∃g,A=some ⟨g,0,none⟩∧g<w.heap.size∧∀j (h:j<ks.length),w.cell? ⟨g,j,none⟩=some (encStr ks[j])
theorem kP.below {w w':World} {A:Option Addr} {ks:List J.B} (h:kP w A ks) (hb:Below w.heap.size w w'):kP w' A ks:=fun hn=>by
 obtain⟨g,e,hg,hc⟩:=h hn;exact⟨g,e,aq hg hb.size,fun j hj=>(hb.cell (p:=⟨g,j,none⟩) hg).trans (hc j hj)⟩
theorem GA (p:Nat) (pre:ByteArray) (M:Nat→Prop) (s:J.St) (w:World) (h:bt w p M s) (wX:s.now.length≤100000000):
  Calls Tryz.prog 47 #[.pointer (some ⟨p,0,none⟩), .string pre] w fun e w'=>∃A,e= .returned (.slice A (keysOf s.now pre).length (keysOf s.now pre).length)∧kP w' A (keysOf s.now pre)∧(∀k,(Value.slice A (keysOf s.now pre).length (keysOf s.now pre).length).ownBlock=some k→w.heap.size≤k)∧Below w.heap.size w w':=by
 have yM:=aa (oG p M s w h);have HS:=aa (callsIn_wide.1 (tT (.pointer (some ⟨p,0,none⟩)) pre w ⟨_,rfl⟩));obtain⟨bn,bw,ch,wr,b0,b1,b2,b3,d0,d1,d2,d3,h1,h2,h3,h4⟩:=h;have hB:Below w.heap.size w ((w.alloc (.cells #[.pointer (some ⟨p,0,none⟩)] 24)).alloc (.cells #[.string pre] 9)):=((ai _ w).alloc (aj _) _).alloc (by simp) _;have Tu:=Boxed.new (w.alloc (.cells #[.pointer (some ⟨p,0,none⟩)] 24)) 9 (.string pre);rw[World.size_alloc]at Tu;have HC:=aa (collect_in w.heap.size (w.heap.size+1) p bn pre s.now M wX _ ((Boxed.new w 24 (.pointer (some ⟨p,0,none⟩))).alloc _).cell Tu.cell ((hB.cell (p:=⟨p,2,none⟩) (ah h1).1).trans (ag w p 2 _ _ _ h1)) (h3.now.step (Step.aH hB) (hB.block bn h3.now.lt)));have HB:=aa hB;clear h1 h2 h3 h4 hB Tu;go_enter Tryz.func47,Tryz.ntmps47;go_wp2_with fail;refine yM.out.mono ?_;rintro e w1 ⟨rfl,rfl⟩;go_wp2_with fail;refine HS.out.mono ?_;rintro e w1 ⟨rfl,rfl⟩;go_wp2_with fail;refine HC.out.mono ?_;rintro e w2 ⟨v,rfl,hown,hb2⟩;have hst:∃A c,v= .slice A (keysOf s.now pre).length c∧(keysOf s.now pre).length≤c∧(A=none→(keysOf s.now pre).length=0∧c=0)∧kP w2 A (keysOf s.now pre)∧∀k,v.ownBlock=some k→w.heap.size≤k:=by
  have hc:=hown;rcases hown.2 with⟨rfl,h0⟩|⟨g,cap,cur,rfl,hbase,hbk,q1,q2⟩
  ·exact⟨none,0,by rw[h0],by omega,fun _=>⟨h0,rfl⟩,fun hn=>absurd hn (by omega),fun k e=>by cases e⟩
  ·refine⟨_,cap,rfl,q1,fun e=>(by cases e),fun _=>⟨g,rfl,(ah hbk).1,fun j hj=> ?_⟩,fun k e=> ?_⟩
   ·rw[hc.cellAt j (by omega)];simp[hj]
   ·have:g=k:=(by simpa [Value.ownBlock] using e);simp at hbase;omega
 obtain⟨A,c,rfl,Bj,hA,VR,gQ⟩:=hst;have HST:=aa VR;have om:=aa gQ;have bB:=aa (HB.out.trans (hb2.mono (by simp;omega)));have jw:=aa (DU A _ c w2 Bj hA);clear hown hb2 VR gQ hA Bj;go_wp2_with fail;refine jw.out.mono ?_;rintro e w3 ⟨rfl,rfl⟩;go_wp2;go_ret;exact⟨A,rfl,HST.out,fun k e=>om.out k (by cases A<;>exact e),bB.out⟩
end Go.Proofs.YtipljcmmokaokaaGreat
namespace Go.Proofs.YtipljcmmokaokaaGreat
open Go.RowKit Go.Lib Go.Maps Go.WideMaps
set_option maxRecDepth 100000
theorem jx {ops:Array Oper} {o:Oper} {a:Act} {w:World} {K:Act→World→Prop} {Q:Exit→Act→World→Prop} {E:Prop} (hgd:o.guard=none) (s x:Operand) (ho:o.op= .call {callee:= .builtin .append,args:=#[s,x],argTypes:=#[97,97]})
  (v:Value) (n:Nat) (xs:List Value) (hs:a.eval s=v) (hown:w.ownsRow 0 139 3 v n xs) (ad:Addr) (m c:Nat) (news:List Value) (hx:a.eval x= .slice (some ad) m c) (hl:news.length=m*3) (hnews:∀j u,news[j]? =some u→w.cell? (ad.add j)=some u) (h1:∀u∈news,u.oneCell'=true)
  (hb:n+m≤100000000)
  (h:∀v' w',w'.ownsRow 0 139 3 v' (n+m) (xs++news)→w.grownBy w' v.ownBlock→(v'.ownBlock=v.ownBlock∨v'.ownBlock=some w.heap.size)→K (a.put o.dst v') w'):
  if Region.wanted o (yielded ops a.tmps)=true then Oper.wp Tryz.prog o a w K Q else E:=by
 obtain⟨i0,hi,hz0,hz1,hz2⟩:=info_parts Tryz.PD;have hw:Region.wanted o (yielded ops a.tmps)=true:=by simp[Region.wanted,hgd]
 rw[if_pos hw];obtain⟨v',w',hrun,h2,h3,h4,h5⟩:=run_append_own_at (P:=Tryz.prog) w 0 97 o.type 139 i0 _ 3 40 Tryz.underlying97 hi hz0 hz1 hz2 rfl (by decide) v n xs hown ad m c news hl hnews h1 (by unfold maxLen;omega) (by omega) (Nat.zero_le _);unfold Oper.wp execOp;simp only[ho,resolve,invoke,builtin,Sem.run_bind,Sem.run_pure,Result.andThen_ok,List.map_toArray,List.map_cons,List.map_nil,hs,hx,hrun];exact h v' w' h2 h3 h5
theorem kI {w:World} {g g' i:Nat} {u:Value} {o:Obj} (h:w.heap[g]? =some o) (hne:g'≠g):(w.setCell ⟨g',i,none⟩ u).heap[g]? =some o:=by
 simp[World.setCell,Array.getElem?_modify,h,hne]
theorem o9 {ops:Array Oper} {o:Oper} {a:Act} {w:World} {K:Act→World→Prop} {Q:Exit→Act→World→Prop} {E:Prop} (hgd:o.guard=none) (s x:Operand) (ho:o.op= .call {callee:= .builtin .append,args:=#[s,x],argTypes:=#[40,40]})
  (M:Nat→Prop) (v:Value) (l:List UInt8) (hs:a.eval s=v) (ha:jW w M v l) (M2:Nat→Prop) (A:Option Addr) (m c:Nat) (x':List UInt8) (hx:a.eval x= .slice A m c) (hy:By w M2 A m x') (h0:0<m) (hb:l.length+m≤100000000)
  (h:∀v' w',lu w w' M v v' (l++x')→K (a.put o.dst v') w'):
  if Region.wanted o (yielded ops a.tmps)=true then Oper.wp Tryz.prog o a w K Q else E:=by
 have hw:Region.wanted o (yielded ops a.tmps)=true:=by simp[Region.wanted,hgd]
 rw[if_pos hw];obtain⟨v',w',hrun,h2⟩:=sr w M v l ha M2 A m c x' hy h0 hb o.type;unfold Oper.wp execOp;simp only[ho,resolve,invoke,builtin,Sem.run_bind,Sem.run_pure,Result.andThen_ok,List.map_toArray,List.map_cons,List.map_nil,hs,hx,hrun];exact h v' w' h2
theorem rN {w:World} {M:Nat→Prop} {v:Value} {l:List UInt8} {g:Nat} {C:Array Value} (ha:jW w M v l) (hg:w.heap[g]? =some (.cells C 139 (0,0))):¬(M g∧v.ownBlock=some g):=by
 rintro⟨mk,e1⟩;rcases ha with⟨h1,_⟩|⟨rfl,_⟩|⟨b,o,rfl,_,hb,hy,_⟩
 ·exact bX h1 hg (by decide) e1
 ·cases e1
 ·simp[Value.ownBlock]at e1;subst e1;exact hy mk
def tV (w:World) (p:Nat) (M:Nat→Prop) (s:J.St) (c:J.Wr) (v:Value) (wx:World):Prop:=
 ∃M',cp wx p M' {s with writes:=s.writes++[c],logged:=s.logged+c.bs.length}∧Step M M' w wx∧wx.heap[w.heap.size]? =some (.cells #[.int .u8 (c.kind:Nat), .int .i64 (c.idx:Nat),v] 139 (0,0))∧¬M' w.heap.size∧∀k,M' k→k<wx.heap.size
theorem ri {w W w1:World} {p:Nat} {M:Nat→Prop} {s:J.St} {kd i n c:Nat} {A:Option Addr} {bs:List UInt8} {bn:Nat} {bw:Option Nat} {ch wr b0 b1 b2 b3 d0 d1 d2 d3 v1:Value} {vs:List Value} {o:Obj}
  (h3:bZ w M s bn bw ch wr b0 b1 b2 b3 d0 d1 d2 d3) (hm:M p) (hpl:p<w.heap.size) (hM:∀k,M k→k<w.heap.size) (g1:vs.length=s.writes.length) (g3:∀k,wr.ownBlock=some k→M k) (g4:∀i (h:i<s.writes.length) (h':i<vs.length),Sl w M vs[i] s.writes[i].bs)
  (hv:Sl w M (.slice A n c) bs) (hn:bs.length=n) (hb:Below w.heap.size w W) (hown:(w1).ownsRow 0 139 3 v1 (s.writes.length+1) (iV s.writes vs++[.int .u8 (kd:Nat), .int .i64 (i:Nat), .slice A n c])) (hg:(W.alloc o).grownBy w1 wr.ownBlock) (hl:v1.ownBlock=wr.ownBlock∨v1.ownBlock=some (W.alloc o).heap.size)
  (hr:w1.heap[p]? =some (.cells (bC s bn bw ch wr b0 b1 b2 b3 d0 d1 d2 d3) 99 (0,0))) (hx:w1.heap[w.heap.size]? =some (.cells #[.int .u8 kd, .int .i64 i, .slice A n c] 139 (0,0))) (Bl:wr.ownBlock≠some w.heap.size):
  tV w p M s ⟨kd,i,bs⟩ (.slice A n c) ((w1.setCell ⟨p,19,none⟩ v1).setCell ⟨p,20,none⟩ (.int .i64 ((s.logged:Int)+(n:Int)))):=by
 have Tv:Below w.heap.size w (W.alloc o):=hb.alloc hb.size o;have hP:=nU.push (M:=M) (c:=⟨kd,i,bs⟩) g1 g4 g3 Tv hown hg hl hv;have hT:=h3.Nj (n:=s.logged+bs.length) hP.2 (fun k=> .inl) (fun k hk hne=>(hg.block k (aq hk Tv.size) (fun e=>hne e.symm)).trans (Tv.block k hk)) hP.1;have hg2:=ay (ay (World.grownBy.refl w1 (some p)) 19 v1) 20 (.int .i64 ((s.logged:Int)+(n:Int)));have hrow:=aC (aC hr 19 v1) 20 (.int .i64 ((s.logged:Int)+(n:Int)));have hcells:((bC s bn bw ch wr b0 b1 b2 b3 d0 d1 d2 d3).setIfInBounds 19 v1).setIfInBounds 20 (.int .i64 ((s.logged:Int)+(n:Int)))=bC {s with writes:=s.writes++[⟨kd,i,bs⟩],logged:=s.logged+bs.length} bn bw ch v1 b0 b1 b2 b3 d0 d1 d2 d3:=by
  rw[←hn,←Int.natCast_add];rfl
 rw[hcells]at hrow;have GC:M p∨v1.ownBlock=some p:= .inl hm;have hlt:w.heap.size<(W.alloc o).heap.size:=by have:=hb.size;simp;omega
 refine⟨fun k=>M k∨v1.ownBlock=some k,⟨bn,bw,ch,v1,b0,b1,b2,b3,d0,d1,d2,d3,hrow,GC,hT.own hr GC hg2⟩,hP.2.trans (Step.bY hg2 (fun k e _=>by cases e;exact GC)), ?_, ?_, ?_⟩
 ·exact kI (kI hx (by omega)) (by omega)
 ·rintro(e|e)
  ·have:=hM _ e;omega
  ·rcases hl with e'|e'
   ·exact Bl (e'▸e)
   ·rw[e']at e;injection e with e;omega
 ·rintro k (e|e)
  ·exact aq (hM k e) (au hP.2.size hg2.size)
  ·exact aq (hown.lt k e).2 hg2.size
theorem yN (p:Nat) (M:Nat→Prop) (s:J.St) (A:Option Addr) (n c:Nat) (bs:List UInt8) (w:World) (h:cp w p M s) (hM:∀k,M k→k<w.heap.size) (hv:Sl w M (.slice A n c) bs) (rj:s.logged+n≤100000000) (qb:s.writes.length+1≤100000000) (hn:bs.length=n)
  (h0:0<n) (hsz:s.disk.a0.length+n≤100000000):
  Calls Tryz.prog 130 #[.pointer (some ⟨p,0,none⟩), .agg #[.int .u8 0, .int .i64 0, .slice A n c]] w fun e w'=>(∃r,e= .returned r)∧∃M',cp w' p M' (J.write s ⟨0,0,bs⟩)∧Step M M' w w':=by
 obtain⟨bn,bw,ch,wr,b0,b1,b2,b3,d0,d1,d2,d3,h1,h2,h3⟩:=h;have H1:=aa h1;have H2:=aa h2;have H3:=aa h3;have HV:=aa hv;have HM:=aa hM;have hpl:p<w.heap.size:=(ah h1).1;have hB:Below w.heap.size w (w.alloc (.cells #[.int .u8 0, .int .i64 0, .slice A n c] 139)):=(ai _ _).alloc (aj _) _;have hr1:=(hB.block p hpl).trans h1;have hc:=fun j=>ag _ p j _ _ _ hr1;have hf:=az hr1;have hb0:=fun j=>World.cell?_alloc_new w #[.int .u8 0, .int .i64 0, .slice A n c] 139 j;obtain⟨vs,g1,g2,g3,g4⟩:=h3.wrs;have hne:wr.ownBlock≠some p:=bX g2 h1 (by decide);have dr:((w.alloc (.cells #[.int .u8 0, .int .i64 0, .slice A n c] 139))).heap[w.heap.size]? =some (.cells #[.int .u8 0, .int .i64 0, .slice A n c] 139 (0,0)):=heap_alloc_new w _;have kO:=aa (show wr.ownBlock≠some w.heap.size from fun e=>absurd (g2.lt _ e).2 (Nat.lt_irrefl _));have HB:=aa hB;have eX:=aa hr1;have HG:=aa (cY g2 (fun k e=>hB.block k (g2.lt k e).2));have sq:=aa g1;have vO:=aa g3;have Bn:=aa g4;have HN:=aa hne;have HX:=aa dr;have om:=aa hn;clear h1 h2 h3 hB hr1 g1 g2 g3 g4 hne hv dr hM hn;go_enter Tryz.func130,Tryz.ntmps130;go_upto_region 1 with fail;generalize hW:w.alloc (.cells #[.int .u8 0, .int .i64 0, .slice A n c] 139)=W at hc hf hb0 HB eX HG HX⊢;clear hW;have hnews:∀(W':World),∀j u,([.int .u8 0, .int .i64 0, .slice A n c]:List Value)[j]? =some u→(W'.alloc (.cells #[.int .u8 0, .int .i64 0, .slice A n c] 139)).cell? ((⟨W'.heap.size,0,none⟩:Addr).add j)=some u:=fun W' j u hu=>by
  have:=World.cell?_alloc_new W' #[.int .u8 0, .int .i64 0, .slice A n c] 139 j;rw[show(⟨W'.heap.size,0,none⟩:Addr).add j=⟨W'.heap.size,j,none⟩ by simp[Addr.add];intro e;exact e.symm];rw[this];rw[←hu];simp
 have aN:∀u∈([.int .u8 0, .int .i64 0, .slice A n c]:List Value),u.oneCell'=true:=by intro u hu;simp at hu;rcases hu with rfl|rfl|rfl<;>rfl
 have vd:=aa hnews;have cP:=aa aN;have GD:=aa qb;have GF:=aa (show p≠w.heap.size by omega);have GG:IntKind.i64.wrap ((s.logged:Int)+(n:Int))=(s.logged:Int)+(n:Int):=IntWalk.i64_in _ (by omega);clear hnews aN qb;let S2:World→Prop:=fun w'=>w'.heap[w.heap.size]? =some (.cells #[.int .u8 0, .int .i64 0, .slice A n c] 139 (0,0));let S1:World→Prop:=fun w'=>w'.heap[p]? =some (.cells (bC s bn bw ch wr b0 b1 b2 b3 d0 d1 d2 d3) 99 (0,0))∧S2 w';have hS1:∀w':World,S1 w'→(∀j,w'.cell? ⟨p,j,none⟩=(bC s bn bw ch wr b0 b1 b2 b3 d0 d1 d2 d3)[j]?)∧(∀j,w'.cell? ⟨w.heap.size,j,none⟩=(#[.int .u8 0, .int .i64 0, .slice A n c]:Array Value)[j]?):=fun w' h=>⟨fun j=>ag _ p j _ _ _ h.1,fun j=>ag _ w.heap.size j _ _ _ h.2⟩;have wS:∀w':World,S2 w'→(∀j,w'.cell? ⟨w.heap.size,j,none⟩=(#[.int .u8 0, .int .i64 0, .slice A n c]:Array Value)[j]?):=fun w' h=>fun j=>ag _ w.heap.size j _ _ _ h;have su:=aa ((((ai W.heap.size W.drew).alloc (aj _) (.cells #[.int .u8 0, .int .i64 0, .slice A n c] 139)).block p (ah eX.out).1).trans eX.out);have dD:=aa ((((ai W.heap.size W.drew).alloc (aj _) (.cells #[.int .u8 0, .int .i64 0, .slice A n c] 139)).block w.heap.size (ah HX.out).1).trans HX.out);have pz:=aa hS1;have rf:=aa wS;clear hS1 wS hc hf hb0;go_cut []from 4 to 24 (fun wx=>tV w p M s ⟨0,0,bs⟩ (.slice A n c) wx)
 case first=>
  refine dC 20 [1,9,10,11,13,14,15,16,17,19] [7,8,19] [(0,false),(2,false),(3,false),(4,false),(5,false),(6,false),(1,false),(9,false),(10,false),(11,false),(12,false),(13,false),(14,false),(15,false),(16,false),(7,true),(8,true),(17,false),(18,false),(19,true)] S1 S2 (by kernel_rfl) (by kernel_rfl) (fun c a d v w h=>by cases d<;>exact h) ⟨eX.out,HX.out⟩ HX.out ?_;repeat
   first
    |refine cj (v:= ?_) (by rfl) (by rfl) (by rfl) (fun w' hS=> ?_) (fun K hK=> ?_)
     rotate_left
     ·obtain⟨o8,hcb⟩:=pz.out w' hS;clear hS;go_simp;try with_reducible rfl
    |refine ck (v:= ?_) (by rfl) (by rfl) (fun w' hS=> ?_) (fun K hK=> ?_)
     rotate_left
     ·have hcb:=rf.out w' hS;clear hS;go_simp;try with_reducible rfl
   go_simp;refine hK _ ?_;clear hK K
  refine bU (by rfl) (fun K hK=> ?_);go_simp;refine hK.out _ _ ⟨su.out,dD.out⟩ dD.out ?_;clear hK K;refine bU (by rfl) (fun K hK=> ?_);refine jx (by rfl) _ _ (by rfl) wr s.writes.length (iV s.writes vs) (by rfl) (HG.out.drew.alloc _) ⟨W.drew.heap.size,0,none⟩ 1 1 [.int .u8 0, .int .i64 0, .slice A n c] (by rfl) (by rfl) (vd.out _) cP.out GD.out ?_;intro v1 w1 hown1 hg1 pO;obtain⟨A1,m1,c1,rfl⟩:=cF hown1;have dc:=aa (cZ (W:=W.drew) eX.out hg1 HN.out);have jc:=aa (cZ (W:=W.drew) HX.out hg1 kO.out);have lr:=aa hown1;have Bc:=aa hg1;have Be:=aa pO;clear hown1 hg1 pO;go_simp;refine hK.out _ _ ⟨dc.out,jc.out⟩ jc.out ?_;clear hK K;have hc1:=fun j=>ag _ p j _ _ _ dc.out;have uY:=az dc.out;repeat
   first|refine cj (v:= ?_) (by rfl) (by rfl) (by rfl) (fun w' hS=> ?_) (fun K hK=> ?_)|refine ck (v:= ?_) (by rfl) (by rfl) (fun w' hS=> ?_) (fun K hK=> ?_)
   rotate_left
   ·clear hS;go_simp;try with_reducible rfl
   go_simp;refine hK _ ?_;clear hK K
  refine iG (by rfl) (by kernel_rfl) (fun K hK=> ?_);go_simp;refine hK.out _ _ (kI jc.out (by exact GF.out)) ?_;clear hK K;show wpList _ _ _ _ _ _;go_wp2_with fail;go_meet;exact ri H3.out H2.out hpl HM.out sq.out vO.out Bn.out HV.out om.out HB.out.drew lr.out Bc.out Be.out dc.out jc.out kO.out
 case rest=>
  obtain⟨M1,hq,hst,dr,Bl,hlt⟩:=hcut;have tU:=HV.out.step hst;obtain⟨bn,bw,ch,wr,b0,b1,b2,b3,d0,d1,d2,d3,q1,q2,q3⟩:=hq;generalize vk:({s with writes:=s.writes++[⟨0,0,bs⟩],logged:=s.logged+bs.length}:J.St)=S0 at q1 q3;have GH:=aa vk;have wV:=aa (show S0.disk.a0.length+n≤100000000 by rw[←vk];exact hsz);have Q1:=aa q1;have Q2:=aa q2;have Q3:=aa q3;have HST:=aa hst;have jG:=aa dr;have J8:=aa tU;have o8:=fun j=>ag wc p j _ _ _ q1;have hcb:=fun j=>ag wc w.heap.size j _ _ _ dr;clear vk q1 q2 q3 hst dr tU Bl hlt hsz;go_upto_region 3 with fail;obtain⟨A',c',eA,hc',hy⟩:=J8.out.by
  injection eA with e1 e2 e3;subst e1 e3;have HY:=aa hy;clear hy o8 hcb e2;refine aY 17 [(0,false),(1,false),(2,false),(3,false),(4,false),(5,false),(6,false),(7,false),(8,false),(9,false),(10,false),(11,false),(12,false),(14,false),(15,false),(16,false),(13,true)] (fun w'=>w'.heap[p]? =some (.cells (bC S0 bn bw ch wr b0 b1 b2 b3 d0 d1 d2 d3) 99 (0,0))∧w'.heap[w.heap.size]? =some (.cells #[.int .u8 0, .int .i64 0, .slice A n c] 139 (0,0))) (by kernel_rfl) (by kernel_rfl) (fun c a d v w h=>by cases d<;>exact h) ⟨Q1.out,jG.out⟩ ?_;repeat
   refine bM (v:= ?_) (by rfl) (by rfl) (fun w' hS=> ?_) (fun K hK=> ?_);rotate_left
   ·have o8:=fun j=>ag w' p j _ _ _ hS.1;have hcb:=fun j=>ag w' w.heap.size j _ _ _ hS.2;clear hS;go_simp;try with_reducible rfl
   go_simp;refine hK _ ?_;clear hK K
  refine cd (by rfl) (fun K hK=> ?_);refine o9 (by rfl) _ _ (by rfl) M1 d2 S0.disk.a0 (by rfl) (show jW wc.drew M1 d2 S0.disk.a0 from Q3.out.e2) M1 A n c bs (by rfl) (by rw[←om.out];exact HY.out.drew) h0 (by exact wV.out) ?_;intro v1 w1 kh;obtain⟨A1,m1,c1,rfl⟩:=cF kh.own;have kh:lu wc w1 M1 d2 (.slice A1 m1 c1) (S0.disk.a0++bs):=⟨kh.own,kh.os,kh.tape,kh.output,kh.size,kh.block,kh.row⟩;have dc:=aa ((kh.block p (ah Q1.out).1 (fun e=>Q3.out.ne Q1.out Q2.out (by simp[e.2]))).trans Q1.out);have jc:=aa ((kh.block w.heap.size (ah jG.out).1 (rN Q3.out.e2 jG.out)).trans jG.out);have Tw:=aa kh;clear kh;go_simp;refine hK.out _ _ ⟨dc.out,jc.out⟩ ?_;clear hK K;have hc1:=fun j=>ag _ p j _ _ _ dc.out;have uY:=az dc.out;show wpList _ _ _ _ _ _;go_wp2_with fail;refine bodyPost_ret (results_none rfl _ _ _) rfl ?_;have hT:=Q3.out.Nk Tw.out;have hg2:=ay (World.grownBy.refl w1 (some p)) 17 (.slice A1 m1 c1);have hrow:=aC dc.out 17 (.slice A1 m1 c1);have GC:M1 p∨(Value.slice A1 m1 c1).ownBlock=some p:= .inl Q2.out;have hw:J.write s ⟨0,0,bs⟩={S0 with disk:={S0.disk with a0:=S0.disk.a0++bs}}:=(by rw[←GH.out];simp[J.write,J.done,J.iC.bQ,J.iC.area]);rw[hw];exact⟨⟨_,rfl⟩,_,⟨bn,bw,ch,wr,b0,b1,b2,b3,d0,d1,_,d3,hrow,GC,hT.1.own dc.out GC hg2⟩,HST.out.trans (hT.2.trans (Step.bY hg2 (fun k e _=>by cases e;exact GC)))⟩
theorem yO (p:Nat) (M:Nat→Prop) (s:J.St) (A:Option Addr) (n c:Nat) (bs:List UInt8) (w:World) (h:cp w p M s) (hM:∀k,M k→k<w.heap.size) (hv:Sl w M (.slice A n c) bs) (rj:s.logged+n≤100000000) (qb:s.writes.length+1≤100000000) (hn:bs.length=n)
  (h0:0<n) (hsz:s.disk.a1.length+n≤100000000):
  Calls Tryz.prog 130 #[.pointer (some ⟨p,0,none⟩), .agg #[.int .u8 0, .int .i64 1, .slice A n c]] w fun e w'=>(∃r,e= .returned r)∧∃M',cp w' p M' (J.write s ⟨0,1,bs⟩)∧Step M M' w w':=by
 obtain⟨bn,bw,ch,wr,b0,b1,b2,b3,d0,d1,d2,d3,h1,h2,h3⟩:=h;have H1:=aa h1;have H2:=aa h2;have H3:=aa h3;have HV:=aa hv;have HM:=aa hM;have hpl:p<w.heap.size:=(ah h1).1;have hB:Below w.heap.size w (w.alloc (.cells #[.int .u8 0, .int .i64 1, .slice A n c] 139)):=(ai _ _).alloc (aj _) _;have hr1:=(hB.block p hpl).trans h1;have hc:=fun j=>ag _ p j _ _ _ hr1;have hf:=az hr1;have hb0:=fun j=>World.cell?_alloc_new w #[.int .u8 0, .int .i64 1, .slice A n c] 139 j;obtain⟨vs,g1,g2,g3,g4⟩:=h3.wrs;have hne:wr.ownBlock≠some p:=bX g2 h1 (by decide);have dr:((w.alloc (.cells #[.int .u8 0, .int .i64 1, .slice A n c] 139))).heap[w.heap.size]? =some (.cells #[.int .u8 0, .int .i64 1, .slice A n c] 139 (0,0)):=heap_alloc_new w _;have kO:=aa (show wr.ownBlock≠some w.heap.size from fun e=>absurd (g2.lt _ e).2 (Nat.lt_irrefl _));have HB:=aa hB;have eX:=aa hr1;have HG:=aa (cY g2 (fun k e=>hB.block k (g2.lt k e).2));have sq:=aa g1;have vO:=aa g3;have Bn:=aa g4;have HN:=aa hne;have HX:=aa dr;have om:=aa hn;clear h1 h2 h3 hB hr1 g1 g2 g3 g4 hne hv dr hM hn;go_enter Tryz.func130,Tryz.ntmps130;go_upto_region 1 with fail;generalize hW:w.alloc (.cells #[.int .u8 0, .int .i64 1, .slice A n c] 139)=W at hc hf hb0 HB eX HG HX⊢;clear hW;have hnews:∀(W':World),∀j u,([.int .u8 0, .int .i64 1, .slice A n c]:List Value)[j]? =some u→(W'.alloc (.cells #[.int .u8 0, .int .i64 1, .slice A n c] 139)).cell? ((⟨W'.heap.size,0,none⟩:Addr).add j)=some u:=fun W' j u hu=>by
  have:=World.cell?_alloc_new W' #[.int .u8 0, .int .i64 1, .slice A n c] 139 j;rw[show(⟨W'.heap.size,0,none⟩:Addr).add j=⟨W'.heap.size,j,none⟩ by simp[Addr.add];intro e;exact e.symm];rw[this];rw[←hu];simp
 have aN:∀u∈([.int .u8 0, .int .i64 1, .slice A n c]:List Value),u.oneCell'=true:=by intro u hu;simp at hu;rcases hu with rfl|rfl|rfl<;>rfl
 have vd:=aa hnews;have cP:=aa aN;have GD:=aa qb;have GF:=aa (show p≠w.heap.size by omega);have GG:IntKind.i64.wrap ((s.logged:Int)+(n:Int))=(s.logged:Int)+(n:Int):=IntWalk.i64_in _ (by omega);clear hnews aN qb;let S2:World→Prop:=fun w'=>w'.heap[w.heap.size]? =some (.cells #[.int .u8 0, .int .i64 1, .slice A n c] 139 (0,0));let S1:World→Prop:=fun w'=>w'.heap[p]? =some (.cells (bC s bn bw ch wr b0 b1 b2 b3 d0 d1 d2 d3) 99 (0,0))∧S2 w';have hS1:∀w':World,S1 w'→(∀j,w'.cell? ⟨p,j,none⟩=(bC s bn bw ch wr b0 b1 b2 b3 d0 d1 d2 d3)[j]?)∧(∀j,w'.cell? ⟨w.heap.size,j,none⟩=(#[.int .u8 0, .int .i64 1, .slice A n c]:Array Value)[j]?):=fun w' h=>⟨fun j=>ag _ p j _ _ _ h.1,fun j=>ag _ w.heap.size j _ _ _ h.2⟩;have wS:∀w':World,S2 w'→(∀j,w'.cell? ⟨w.heap.size,j,none⟩=(#[.int .u8 0, .int .i64 1, .slice A n c]:Array Value)[j]?):=fun w' h=>fun j=>ag _ w.heap.size j _ _ _ h;have su:=aa ((((ai W.heap.size W.drew).alloc (aj _) (.cells #[.int .u8 0, .int .i64 1, .slice A n c] 139)).block p (ah eX.out).1).trans eX.out);have dD:=aa ((((ai W.heap.size W.drew).alloc (aj _) (.cells #[.int .u8 0, .int .i64 1, .slice A n c] 139)).block w.heap.size (ah HX.out).1).trans HX.out);have pz:=aa hS1;have rf:=aa wS;clear hS1 wS hc hf hb0;go_cut []from 4 to 24 (fun wx=>tV w p M s ⟨0,1,bs⟩ (.slice A n c) wx)
 case first=>
  refine dC 20 [1,9,10,11,13,14,15,16,17,19] [7,8,19] [(0,false),(2,false),(3,false),(4,false),(5,false),(6,false),(1,false),(9,false),(10,false),(11,false),(12,false),(13,false),(14,false),(15,false),(16,false),(7,true),(8,true),(17,false),(18,false),(19,true)] S1 S2 (by kernel_rfl) (by kernel_rfl) (fun c a d v w h=>by cases d<;>exact h) ⟨eX.out,HX.out⟩ HX.out ?_;repeat
   first
    |refine cj (v:= ?_) (by rfl) (by rfl) (by rfl) (fun w' hS=> ?_) (fun K hK=> ?_)
     rotate_left
     ·obtain⟨o8,hcb⟩:=pz.out w' hS;clear hS;go_simp;try with_reducible rfl
    |refine ck (v:= ?_) (by rfl) (by rfl) (fun w' hS=> ?_) (fun K hK=> ?_)
     rotate_left
     ·have hcb:=rf.out w' hS;clear hS;go_simp;try with_reducible rfl
   go_simp;refine hK _ ?_;clear hK K
  refine bU (by rfl) (fun K hK=> ?_);go_simp;refine hK.out _ _ ⟨su.out,dD.out⟩ dD.out ?_;clear hK K;refine bU (by rfl) (fun K hK=> ?_);refine jx (by rfl) _ _ (by rfl) wr s.writes.length (iV s.writes vs) (by rfl) (HG.out.drew.alloc _) ⟨W.drew.heap.size,0,none⟩ 1 1 [.int .u8 0, .int .i64 1, .slice A n c] (by rfl) (by rfl) (vd.out _) cP.out GD.out ?_;intro v1 w1 hown1 hg1 pO;obtain⟨A1,m1,c1,rfl⟩:=cF hown1;have dc:=aa (cZ (W:=W.drew) eX.out hg1 HN.out);have jc:=aa (cZ (W:=W.drew) HX.out hg1 kO.out);have lr:=aa hown1;have Bc:=aa hg1;have Be:=aa pO;clear hown1 hg1 pO;go_simp;refine hK.out _ _ ⟨dc.out,jc.out⟩ jc.out ?_;clear hK K;have hc1:=fun j=>ag _ p j _ _ _ dc.out;have uY:=az dc.out;repeat
   first|refine cj (v:= ?_) (by rfl) (by rfl) (by rfl) (fun w' hS=> ?_) (fun K hK=> ?_)|refine ck (v:= ?_) (by rfl) (by rfl) (fun w' hS=> ?_) (fun K hK=> ?_)
   rotate_left
   ·clear hS;go_simp;try with_reducible rfl
   go_simp;refine hK _ ?_;clear hK K
  refine iG (by rfl) (by kernel_rfl) (fun K hK=> ?_);go_simp;refine hK.out _ _ (kI jc.out (by exact GF.out)) ?_;clear hK K;show wpList _ _ _ _ _ _;go_wp2_with fail;go_meet;exact ri H3.out H2.out hpl HM.out sq.out vO.out Bn.out HV.out om.out HB.out.drew lr.out Bc.out Be.out dc.out jc.out kO.out
 case rest=>
  obtain⟨M1,hq,hst,dr,Bl,hlt⟩:=hcut;have tU:=HV.out.step hst;obtain⟨bn,bw,ch,wr,b0,b1,b2,b3,d0,d1,d2,d3,q1,q2,q3⟩:=hq;generalize vk:({s with writes:=s.writes++[⟨0,1,bs⟩],logged:=s.logged+bs.length}:J.St)=S0 at q1 q3;have GH:=aa vk;have wV:=aa (show S0.disk.a1.length+n≤100000000 by rw[←vk];exact hsz);have Q1:=aa q1;have Q2:=aa q2;have Q3:=aa q3;have HST:=aa hst;have jG:=aa dr;have J8:=aa tU;have o8:=fun j=>ag wc p j _ _ _ q1;have hcb:=fun j=>ag wc w.heap.size j _ _ _ dr;clear vk q1 q2 q3 hst dr tU Bl hlt hsz;go_upto_region 3 with fail;obtain⟨A',c',eA,hc',hy⟩:=J8.out.by
  injection eA with e1 e2 e3;subst e1 e3;have HY:=aa hy;clear hy o8 hcb e2;refine aY 17 [(0,false),(1,false),(2,false),(3,false),(4,false),(5,false),(6,false),(7,false),(8,false),(9,false),(10,false),(11,false),(12,false),(14,false),(15,false),(16,false),(13,true)] (fun w'=>w'.heap[p]? =some (.cells (bC S0 bn bw ch wr b0 b1 b2 b3 d0 d1 d2 d3) 99 (0,0))∧w'.heap[w.heap.size]? =some (.cells #[.int .u8 0, .int .i64 1, .slice A n c] 139 (0,0))) (by kernel_rfl) (by kernel_rfl) (fun c a d v w h=>by cases d<;>exact h) ⟨Q1.out,jG.out⟩ ?_;repeat
   refine bM (v:= ?_) (by rfl) (by rfl) (fun w' hS=> ?_) (fun K hK=> ?_);rotate_left
   ·have o8:=fun j=>ag w' p j _ _ _ hS.1;have hcb:=fun j=>ag w' w.heap.size j _ _ _ hS.2;clear hS;go_simp;try with_reducible rfl
   go_simp;refine hK _ ?_;clear hK K
  refine cd (by rfl) (fun K hK=> ?_);refine o9 (by rfl) _ _ (by rfl) M1 d3 S0.disk.a1 (by rfl) (show jW wc.drew M1 d3 S0.disk.a1 from Q3.out.e3) M1 A n c bs (by rfl) (by rw[←om.out];exact HY.out.drew) h0 (by exact wV.out) ?_;intro v1 w1 kh;obtain⟨A1,m1,c1,rfl⟩:=cF kh.own;have kh:lu wc w1 M1 d3 (.slice A1 m1 c1) (S0.disk.a1++bs):=⟨kh.own,kh.os,kh.tape,kh.output,kh.size,kh.block,kh.row⟩;have dc:=aa ((kh.block p (ah Q1.out).1 (fun e=>Q3.out.ne Q1.out Q2.out (by simp[e.2]))).trans Q1.out);have jc:=aa ((kh.block w.heap.size (ah jG.out).1 (rN Q3.out.e3 jG.out)).trans jG.out);have Tw:=aa kh;clear kh;go_simp;refine hK.out _ _ ⟨dc.out,jc.out⟩ ?_;clear hK K;have hc1:=fun j=>ag _ p j _ _ _ dc.out;have uY:=az dc.out;show wpList _ _ _ _ _ _;go_wp2_with fail;refine bodyPost_ret (results_none rfl _ _ _) rfl ?_;have hT:=Q3.out.Nl Tw.out;have hg2:=ay (World.grownBy.refl w1 (some p)) 18 (.slice A1 m1 c1);have hrow:=aC dc.out 18 (.slice A1 m1 c1);have GC:M1 p∨(Value.slice A1 m1 c1).ownBlock=some p:= .inl Q2.out;have hw:J.write s ⟨0,1,bs⟩={S0 with disk:={S0.disk with a1:=S0.disk.a1++bs}}:=(by rw[←GH.out];simp[J.write,J.done,J.iC.bQ,J.iC.area]);rw[hw];exact⟨⟨_,rfl⟩,_,⟨bn,bw,ch,wr,b0,b1,b2,b3,d0,d1,d2,_,hrow,GC,hT.1.own dc.out GC hg2⟩,HST.out.trans (hT.2.trans (Step.bY hg2 (fun k e _=>by cases e;exact GC)))⟩
end Go.Proofs.YtipljcmmokaokaaGreat
