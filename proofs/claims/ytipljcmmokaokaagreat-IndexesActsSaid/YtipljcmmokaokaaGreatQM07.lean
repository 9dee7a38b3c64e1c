import Derived.Test.YtipljcmmokaokaaGreatQM06
import Derived.Test.YtipljcmmokaokaaGreatQLay
import Derived.Sort.OwnSorted
import Derived.Test.YtipljcmmokaokaaGreatQShelf
import Derived.RangeFuncNested
import Derived.RangeFuncBound
import Derived.RangeFuncCalls
import Derived.RangeFuncLeaves
import Derived.RangeFuncBox
import Derived.Shelf.Abstract
import Derived.Shelf.RegionOpen
import Derived.OwnWalkIn
import Derived.TacticsInMore
import Derived.LoopNIn
import Derived.LoopIn
import Derived.Maps.OwnIn
import Derived.Sort.MapsRangeIn
import Derived.Deep.CutRange
set_option linter.unusedVariables false
set_option linter.unusedSimpArgs false
set_option maxHeartbeats 40000000
namespace Go.Proofs.YtipljcmmokaokaaGreat
open Go.RowKit Go.Lib Go.Maps Go.WideMaps
set_option maxRecDepth 100000
theorem bA.cap {w:World} {p:Nat} {M:Nat→Prop} {s:J.St} (h:bA w p M s):bA w p (λk=>M k∧k<w.heap.size) s:=by
 have hl:=h.lt;obtain⟨bn,bw,ch,wr,b0,b1,b2,b3,d0,d1,d2,d3,h1,h2,h3,h4⟩:=h;exact⟨bn,bw,ch,wr,b0,b1,b2,b3,d0,d1,d2,d3,h1,⟨h2,hl⟩,h3.keep ⟨rfl,rfl,rfl,aq _,λ_ _ _=>rfl,λ_ _ h=>h.1⟩ (λk hk hm _=>⟨⟨hm,hk⟩,rfl⟩),h4⟩
theorem Step.Fp {w w':World} {M M':Nat→Prop} (h:Step (λk=>M k∧k<w.heap.size) M' w w'):Step M M' w w':=
 ⟨h.os,h.tape,h.output,h.size,λk hk hn=>h.block k hk (λh=>hn h.1),λk hk hm=>(h.sub k hk hm).1⟩
theorem bT.len {w:World} {M:Nat→Prop} {A:Option Addr} {n c:Nat} {l:List UInt8} (h:bT w M (.slice A n c) l):l.length=n∧c=n:=by
 rcases h with⟨e,rfl⟩|⟨b,o,e,_⟩
 ·injection e with _ e1 e2;exact⟨e1.symm,by omega⟩
 ·injection e with _ e1 e2;exact⟨e1.symm,by omega⟩
theorem bT.cP {w:World} {M:Nat→Prop} {v:Value} {l:List UInt8} (h:bT w M v l):∃A,v= .slice A l.length l.length:=by
 rcases h with⟨rfl,rfl⟩|⟨b,o,e,_⟩
 ·exact⟨_,rfl⟩
 ·exact⟨_,e⟩
theorem Sl.cP {w:World} {M:Nat→Prop} {v:Value} {l:List UInt8} (h:Sl w M v l):∃A c,v= .slice A l.length c:=by
 rcases h with⟨_,rfl,rfl⟩|⟨b,o,c,e,_⟩
 ·exact⟨_,_,rfl⟩
 ·exact⟨_,_,e⟩
theorem Tu (p:Nat) (M:Nat→Prop) (s:J.St) (key:ByteArray) (v:Value) (val:List UInt8) (w:World) (h:bA w p M s) (ho:s.opn=true) (ej:¬key.toList=[]) (hk:key.size≤300) (hn:val.length≤8192) (M0:Nat→Prop) (hv:Sl w M0 v val):
  Calls Tryz.prog 49 #[.pointer (some ⟨p,0,none⟩), .string key,v] w λe w'=>e= .returned (.int .i64 (J.add s ⟨key.data.toList,val,false⟩).2)∧∃M',bA w' p M' (J.add s ⟨key.data.toList,val,false⟩).1∧Step M M' w w':=by
 have HS:=ae (lK p M s true w h);have HC:=ae (tY v val w M0 hv (by omega));have HH:=ae h;have HO:=ae ho;obtain⟨A,c,rfl⟩:=hv.cP;have fP:¬(300:Int)<(key.size:Int):=by omega
 have rz:¬(8192:Int)<(val.length:Int):=by omega
 have hk3:key.toList.isEmpty=false:=by simpa using ej
 clear ho h hv;go_enter Tryz.func49,Tryz.ntmps49;go_wp2_with fail;refine HS.out.mono ?_;rintro e w1 ⟨rfl,rfl⟩;rw[HO.out];go_wp2_with fail
 all_goals first|(exfalso;exact absurd (by assumption) ej)|skip
 refine HC.out.mono ?_;rintro e w1 ⟨v1,rfl,hs1,hb1⟩;have hs2:bT w1 (λk=>M k∧k<w.heap.size) v1 val:=hs1.weak (λk h=>h.2);have hst:bA w1 p (λk=>M k∧k<w.heap.size) s:=HH.out.cap.below hb1;obtain⟨A1,rfl⟩:=hs2.cP;have hsb:Step (λk=>M k∧k<w.heap.size) (λk=>M k∧k<w.heap.size) w w1:=Step.aI hb1;have vP:=ae hs2;have HST:=ae hst;have HSB:=ae hsb;clear hs1 hb1 hs2 hst hsb;have dV:key.data.toList.length=key.size:=rfl;have cq:(⟨key.data.toList,val,false⟩:J.bZ).len=3+key.size+(4+val.length):=by simp[J.bZ.len,dV]
 have nb:=ae cq;clear cq dV;go_wp2_with fail;by_cases hroom:4194304 - s.size<3+key.size+(4+val.length)
 ·refine(zT p _ s key A1 val.length val.length false w1 HST.out (by omega) (by omega) (by simpa using hroom)).mono ?_;rintro e w2 ⟨rfl,hs,hst⟩;have hres:J.add s ⟨key.data.toList,val,false⟩=({s with spoilt:=true},9):=(by unfold J.add;rw[nb.out,if_pos hroom]);have HF:=ae hs;have HG:=ae hst;have HR:=ae hres;clear hs hst hres hroom;go_wp2_with fail;go_ret;rw[HR.out];exact⟨rfl,_,HF.out,(HSB.out.trans HG.out).Fp⟩
 ·refine(Pf p _ s key A1 val.length val.length val w1 HST.out (by omega) (by omega) vP.out (by omega) HO.out).mono ?_;rintro e w2 ⟨rfl,M',hs,hst⟩;have hres:(J.add s ⟨key.data.toList,val,false⟩).2=0:=(by unfold J.add;rw[nb.out,if_neg hroom]);have HF:=ae hs;have HG:=ae hst;have HR:=ae hres;clear hs hst hres hroom;go_wp2_with fail;go_ret;rw[HR.out];exact⟨rfl,_,HF.out,(HSB.out.trans HG.out).Fp⟩
theorem Dd (p:Nat) (M:Nat→Prop) (s:J.St) (key:ByteArray) (w:World) (h:bA w p M s) (hk:key.size≤1000):
  Calls Tryz.prog 48 #[.pointer (some ⟨p,0,none⟩), .string key] w λe w'=>e= .returned (.int .i64 (J.delete s key.data.toList).2)∧∃M',bA w' p M' (J.delete s key.data.toList).1∧Step M M' w w':=by
 have HS:=ae (lK p M s true w h);have HH:=ae h;obtain⟨bn,bw,ch,wr,b0,b1,b2,b3,d0,d1,d2,d3,h1,h2,h3,h4⟩:=h;obtain⟨D,hown,nM,nP,hval⟩:=h3.now;have HHs:=ae nP;have HOw:=ae hown;have hkey:keyOf Tryz.prog 9 (.string key)=some (.string key.data.toList):=keyOf_string_mk Tryz.underlying9 (by unfold maxLen;omega);have HK:=ae hkey;have hc:=aj w p h1;clear h1 h2 h3 h4 hown nM nP hval hkey;go_enter Tryz.func48,Tryz.ntmps48;go_wp2_with fail;refine HS.out.mono ?_;rintro e w1 ⟨rfl,rfl⟩;cases ho:s.opn with
 |false=>
  have hres:J.delete s key.data.toList=(s,6):=(by unfold J.delete;rw[if_pos ho]);have HR:=ae hres;clear hres;go_wp2_with fail;go_ret;rw[HR.out];exact⟨rfl,M,HH.out,Step.refl _ _⟩
 |true=>
  have HO:=ae ho;rw[ho]at hc;clear ho;go_wp2_with (at_lookup;refine wpList_lookup_own_ok _ rfl _ _ 94 rfl 9 40 qi Tryz.underlying94 dm (Kq _) .nil [] rfl bn _ D rfl HOw.out _ _ rfl HK.out ?_);intro v ps hv;clear hv;rw[HHs.out];cases hl:J.look s.now key.data.toList with
  |none=>
   have hres:J.delete s key.data.toList=(s,7):=(by unfold J.delete;rw[if_neg (by rw[HO.out];simp),if_pos hl]);have HR:=ae hres;clear hres hl;go_wp2_with fail;go_ret;rw[HR.out];exact⟨rfl,M,HH.out,Step.refl _ _⟩
  |some l=>
   have hres:J.delete s key.data.toList=J.add s ⟨key.data.toList,[],true⟩:=(by unfold J.delete;rw[if_neg (by rw[HO.out];simp),if_neg (by rw[hl];simp)]);have dV:key.data.toList.length=key.size:=rfl;have cq:(⟨key.data.toList,[],true⟩:J.bZ).len=3+key.size:=(by simp[J.bZ.len,dV]);have HR:=ae hres;have nb:=ae cq;clear hres hl dV cq;go_wp2_with fail;by_cases hroom:4194304 - s.size<3+key.size
   ·refine(zT p M s key none 0 0 true w HH.out (by omega) (by omega) (by simpa using hroom)).mono ?_;rintro e w2 ⟨rfl,hs,hst⟩;have hres:J.add s ⟨key.data.toList,[],true⟩=({s with spoilt:=true},9):=(by unfold J.add;rw[nb.out,if_pos hroom]);have HF:=ae hs;have HG:=ae hst;have fy:=ae hres;clear hs hst hres hroom;go_wp2_with fail;go_ret;rw[HR.out,fy.out];exact⟨rfl,_,HF.out,HG.out⟩
   ·refine(KP p M s key w HH.out (by omega) (by omega) HO.out).mono ?_;rintro e w2 ⟨rfl,M',hs,hst⟩;have hres:(J.add s ⟨key.data.toList,[],true⟩).2=0:=(by unfold J.add;rw[nb.out,if_neg hroom]);have HF:=ae hs;have HG:=ae hst;have fy:=ae hres;clear hs hst hres hroom;go_wp2_with fail;go_ret;rw[HR.out,fy.out];exact⟨rfl,_,HF.out,HG.out⟩
structure iy (w w':World) (M:Nat→Prop) (v v':Value) (l:List UInt8):Prop where
 own:w'.ownsRow 0 5 1 v' l.length (dx l)
 os:w'.os=w.os
 tape:w'.tape=w.tape
 output:w'.output=w.output
 size:w.heap.size≤w'.heap.size
 block:∀k,k<w.heap.size→¬(M k∧v.ownBlock=some k)→w'.heap[k]? =w.heap[k]?
 row:∀k,v'.ownBlock=some k→k<w.heap.size→M k∧v.ownBlock=some k
theorem sT (w:World) (M:Nat→Prop) (v:Value) (l:List UInt8) (h:fG w M v l) (M2:Nat→Prop) (A:Option Addr) (m c:Nat) (x:List UInt8) (hx:By w M2 A m x) (h0:0<m) (hb:l.length+m≤100000000) (ty:TypeId):
  ∃v' w',(Builtin.append_ #[40,40] ty #[v, .slice A m c]).run Tryz.prog w= .ok v' w'∧iy w w' M v v' (l++x):=by
 have Co:x.length=m:=hx.1;have own:(w.ownsRow 0 5 1 v l.length (dx l)∧∀k,v.ownBlock=some k→M k)→∃v' w',(Builtin.append_ #[40,40] ty #[v, .slice A m c]).run Tryz.prog w= .ok v' w'∧iy w w' M v v' (l++x):=by
  rintro⟨h1,h2⟩;obtain⟨v',w',hr,g1,g2,g3,_⟩:=fQ w 0 v l.length l h1 M2 A m c x hx hb (Nat.zero_le _) ty;refine⟨v',w',hr,by rw[List.length_append,Co];exact g1,g2.os,g2.tape,g2.output,g2.size,λk hk hn=>g2.block k hk (λe=>hn ⟨h2 k e.symm,e.symm⟩),λk e hk=> ?_⟩;rcases g3 with g3|g3
  ·exact⟨h2 k (g3▸e),g3▸e⟩
  ·rw[g3]at e;injection e with e;omega
 rcases h with h|⟨rfl,rfl⟩|⟨b,o,rfl,hm,hbl,hM,hy⟩
 ·exact own h
 ·exact own ⟨World.ownsRow_nil _ _ _ _,λk e=>by cases e⟩
 ·obtain⟨i0,hi,hz0,hz1,hz2⟩:=info_parts Tryz.Fh;obtain⟨ad,rfl,_,_,hc⟩:=hx.at_ h0;have holds:∀j u,(dx l)[j]? =some u→w.cell? ((⟨b,o,none⟩:Addr).add j)=some u:=by
   intro j u hu;have hj:j<l.length:=by
    by_cases hj:j<l.length
    ·exact hj
    ·rw[List.getElem?_eq_none (by rw[eX];omega)]at hu;cases hu
   rw[tA l j hj]at hu;injection hu with hu;rw[←hu];obtain⟨b',o',e,_,_,cq⟩:=hy.2 (by omega);injection e with e;injection e with e1 e2;subst e1 e2;rw[gM];exact cq j hj
  have hnews:∀j u,(dx x)[j]? =some u→w.cell? (ad.add j)=some u:=by
   intro j u hu;have hj:j<x.length:=by
    by_cases hj:j<x.length
    ·exact hj
    ·rw[List.getElem?_eq_none (by rw[eX];omega)]at hu;cases hu
   rw[tA x j hj]at hu;injection hu with hu;rw[←hu];exact hc j hj
  have vE:=grownCap_ge w (l.length+m) l.length 5;have hcm:grownCap w (l.length+m) l.length 5≤maxLen:=grownCap_le_maxLen w (l.length+m) l.length 5 (by unfold maxLen;omega);have hr:=run_append_grow (P:=Tryz.prog) w 40 ty 5 i0 (.int .u8 0) Tryz.underlying40 hi hz0 ⟨b,o,none⟩ l.length l.length (dx l) (by rw[eX,hz1,Nat.mul_one]) holds ad m c (dx x) (by rw[eX,hz1,Co,Nat.mul_one]) hnews (by omega) (by omega) (by rw[hz2];exact growslice_fits (by omega) (by omega));refine⟨_,_,hr, ?_,rfl,rfl,rfl,by simp,λk hk _=>heap_alloc_old w.drew _ hk,λk e hk=> ?_⟩
  ·have hlen:(dx (l++x)).length=(l.length+m)*1:=(by rw[eX,List.length_append,Co,Nat.mul_one]);rw[show(l++x).length=l.length+m by rw[List.length_append,Co]];refine⟨hlen, .inr ⟨w.heap.size,_,_,rfl,Nat.zero_le _,heap_alloc_new w.drew _,vE,hcm, ?_, ?_⟩⟩
   ·have hcs:(Value.int .u8 0).cells.size=1:=rfl;simp only[Array.size_append,List.size_toArray,size_zeroCells,hcs,eX,Co,Nat.mul_one];omega
   ·simp only[Array.toList_append,List.append_assoc];rw[←List.append_assoc,←xH];rw[show(l.length+m)*1=(dx (l++x)).length from hlen.symm];exact List.take_left
  ·simp[Value.ownBlock]at e;omega
theorem Tryz.WC:(Tryz.prog.info? 139).map (λi=>(i.zero,i.size,i.bytes))=some (some (.agg #[.int .u8 0, .int .i64 0, .slice none 0 0]),3,40):=by kernel_rfl
theorem xO (L:List J.Wr) (vs:List Value) (wr:J.Wr) (x:Value) (h:vs.length=L.length):eY (L++[wr]) (vs++[x])=eY L vs++[.int .u8 (wr.kind:Nat), .int .i64 (wr.idx:Nat),x]:=by
 unfold eY;rw[List.zip_append h.symm];simp
def ck (w:World) (p:Nat) (M:Nat→Prop) (s:J.St):Prop:=
 ∃(bn:Nat) (bw:Option Nat) (ch wr b0 b1 b2 b3 d0 d1 d2 d3:Value),
  w.heap[p]? =some (.cells (bW s bn bw ch wr b0 b1 b2 b3 d0 d1 d2 d3) 99 (0,0))∧M p∧bX w M s bn bw ch wr b0 b1 b2 b3 d0 d1 d2 d3
theorem bA.q {w:World} {p:Nat} {M:Nat→Prop} {s:J.St} (h:bA w p M s):ck w p M s∧Ok s:=by
 obtain⟨bn,bw,ch,wr,b0,b1,b2,b3,d0,d1,d2,d3,h1,h2,h3,h4⟩:=h;exact⟨⟨bn,bw,ch,wr,b0,b1,b2,b3,d0,d1,d2,d3,h1,h2,h3⟩,h4⟩
theorem ck.r {w:World} {p:Nat} {M:Nat→Prop} {s:J.St} (h:ck w p M s) (h4:Ok s):bA w p M s:=by
 obtain⟨bn,bw,ch,wr,b0,b1,b2,b3,d0,d1,d2,d3,h1,h2,h3⟩:=h;exact⟨bn,bw,ch,wr,b0,b1,b2,b3,d0,d1,d2,d3,h1,h2,h3,h4⟩
theorem ck.below {w w':World} {p:Nat} {M:Nat→Prop} {s:J.St} (h:ck w p M s) (hb:Below w.heap.size w w'):ck w' p M s:=by
 obtain⟨bn,bw,ch,wr,b0,b1,b2,b3,d0,d1,d2,d3,h1,h2,h3⟩:=h;exact⟨bn,bw,ch,wr,b0,b1,b2,b3,d0,d1,d2,d3,(hb.block p (ai h1).1).trans h1,h2,h3.below hb⟩
theorem ck.lt {w:World} {p:Nat} {M:Nat→Prop} {s:J.St} (h:ck w p M s):p<w.heap.size∧M p:=by
 obtain⟨bn,bw,ch,wr,b0,b1,b2,b3,d0,d1,d2,d3,h1,h2,_⟩:=h;exact⟨(ai h1).1,h2⟩
theorem ck.cap {w:World} {p:Nat} {M:Nat→Prop} {s:J.St} (h:ck w p M s):ck w p (λk=>M k∧k<w.heap.size) s:=by
 have hl:=h.lt.1;obtain⟨bn,bw,ch,wr,b0,b1,b2,b3,d0,d1,d2,d3,h1,h2,h3⟩:=h;exact⟨bn,bw,ch,wr,b0,b1,b2,b3,d0,d1,d2,d3,h1,⟨h2,hl⟩,h3.keep ⟨rfl,rfl,rfl,aq _,λ_ _ _=>rfl,λ_ _ h=>h.1⟩ (λk hk hm _=>⟨⟨hm,hk⟩,rfl⟩)⟩
section
variable {w w' : World} {M M' : Nat → Prop} {s : J.St} {bn : Nat} {bw : Option Nat} {ch wr b0 b1 b2 b3 d0 d1 d2 d3 : Value}
theorem nN.push {W w1:World} {v v' x:Value} {L:List J.Wr} {c:J.Wr} {vs:List Value} (h1:vs.length=L.length) (h3:∀i (h:i<L.length) (h':i<vs.length),Sl w M vs[i] L[i].bs) (hm:∀k,v.ownBlock=some k→M k)
  (hb:Below w.heap.size w W) (hown:w1.ownsRow 0 139 3 v' (L.length+1) (eY L vs++[.int .u8 (c.kind:Nat), .int .i64 (c.idx:Nat),x])) (hg:W.grownBy w1 v.ownBlock) (hl:v'.ownBlock=v.ownBlock∨v'.ownBlock=some W.heap.size)
  (hx:Sl w M x c.bs):nN w1 (λk=>M k∨v'.ownBlock=some k) v' (L++[c])∧Step M (λk=>M k∨v'.ownBlock=some k) w w1:=by
 have hs:Step M (λk=>M k∨v'.ownBlock=some k) w w1:=by
  refine⟨hg.os.trans hb.os,hg.tape.trans hb.tape,hg.output.trans hb.output,aw hb.size hg.size,λk hk hn=> ?_,λk hk e=> ?_⟩
  ·exact(hg.block k (av hk hb.size) (λe=>hn (hm k e.symm))).trans (hb.block k hk)
  ·rcases e with e|e
   ·exact e
   ·rcases hl with e'|e'
    ·exact hm k (e'▸e)
    ·rw[e']at e;injection e with e;have:=hb.size;omega
 refine⟨⟨vs++[x],by simp[h1], ?_,λk e=> .inr e,λi hi hi'=> ?_⟩,hs⟩
 ·rw[xO _ _ _ _ h1];simpa using hown
 ·by_cases e:i<L.length
  ·rw[List.getElem_append_left e,List.getElem_append_left (by omega)];exact(h3 i e (by omega)).step hs
  ·have:i=L.length:=(by simp at hi;omega);subst this;rw[List.getElem_append_right (by omega),List.getElem_append_right (by omega)];simp only[h1,Nat.sub_self,List.getElem_singleton];exact hx.step hs
theorem bX.Tv {L:List J.Wr} {v':Value} {n:Nat} (h:bX w M s bn bw ch wr b0 b1 b2 b3 d0 d1 d2 d3) (hs:Step M M' w w') (ez:∀k,M k→M' k) (hg:∀k,k<w.heap.size→wr.ownBlock≠some k→w'.heap[k]? =w.heap[k]?) (hc:nN w' M' v' L):
  bX w' M' {s with writes:=L,logged:=n} bn bw ch v' b0 b1 b2 b3 d0 d1 d2 d3:=by
 obtain⟨vs,g1,g2,g3,g4⟩:=h.wrs;have hrow:∀{e:TypeId} {v:Value} {base size n:Nat} {xs:List Value},e≠139→w.ownsRow base e size v n xs→∀k,v.ownBlock=some k→wr.ownBlock≠some k:=by
  intro e v base size n xs he hr k hk ea;rcases g2.2 with⟨rfl,_⟩|⟨g',cap,cur,rfl,_,hh,_⟩
  ·simp[Value.ownBlock]at ea
  ·have:g'=k:=(by simpa [Value.ownBlock] using ea);subst this;exact cT hr hh he hk
 have jW:∀{v:Value} {l:List UInt8},fG w M v l→∀k,v.ownBlock=some k→wr.ownBlock≠some k:=by
  intro v l ha k hk;rcases ha with⟨h1,_⟩|⟨rfl,_⟩|⟨b,o,rfl,_,hb,hy,_⟩
  ·exact hrow (by decide) h1 k hk
  ·cases hk
  ·simp[Value.ownBlock]at hk;subst hk;exactλe=>hy (g3 _ e)
 refine⟨h.now.step hs (hg bn h.now.lt (fj g2 h.now)),ez _ h.mbn, ?_,h.chs.keep hs h.mch (λk e=> ?_),λk e=>ez _ (h.mch k e),hc,h.f0.step hs,h.f1.step hs,h.f2.step hs,h.f3.step hs,h.e0.step hs,h.e1.step hs,
  h.e2.keep hs (λk _ m=>ez k m) (λk e _=>hg k (eZ h.e2 k e) (jW h.e2 k e)),h.e3.keep hs (λk _ m=>ez k m) (λk e _=>hg k (eZ h.e3 k e) (jW h.e3 k e)),
  λk e2 e3 m=>h.dd k e2 e3 (hs.sub k (eZ h.e2 k e2) m)⟩
 ·cases bw with
  |none=>exact h.was
  |some b=>obtain⟨q1,q2,q3,q4⟩:=h.was;exact⟨q1,q2.step hs (hg b q2.lt (fj g2 q2)),ez _ q3,q4⟩
 ·obtain⟨RQ,_,h2,_⟩:=h.chs;exact hg k (h2.lt k e).2 (hrow (by decide) h2 k e)
theorem jY {v v2:Value} {l:List UInt8} {e:TypeId} {base size n:Nat} {xs:List Value} (ha:fG w M v l) (h2:w.ownsRow base e size v2 n xs) (he:e≠5) (hm:∀k,v2.ownBlock=some k→M k):∀k,v2.ownBlock=some k→¬(M k∧v.ownBlock=some k):=by
 rintro k e2 ⟨mk,e1⟩;rcases ha with⟨h1,_⟩|⟨rfl,_⟩|⟨b,o,rfl,_,hb,hy,_⟩
 ·rcases h1.2 with⟨rfl,_⟩|⟨g',cap,cur,rfl,_,hh,_⟩
  ·cases e1
  ·have:g'=k:=(by simpa [Value.ownBlock] using e1);subst this;exact cT h2 hh he e2
 ·cases e1
 ·simp[Value.ownBlock]at e1;subst e1;exact hy mk
theorem bX.Tw {l:List UInt8} {v':Value} (h:bX w M s bn bw ch wr b0 b1 b2 b3 d0 d1 d2 d3) (ha:iy w w' M d2 v' l):
  bX w' (λk=>M k∨v'.ownBlock=some k) {s with disk:={s.disk with a0:=l}} bn bw ch wr b0 b1 b2 b3 d0 d1 v' d3∧Step M (λk=>M k∨v'.ownBlock=some k) w w':=by
 have hs:Step M (λk=>M k∨v'.ownBlock=some k) w w':=⟨ha.os,ha.tape,ha.output,ha.size,λk hk hn=>ha.block k hk (λe=>hn e.1),λk hk e=>e.elim id (λe=>(ha.row k e hk).1)⟩;have ez:∀k,M k→M k∨v'.ownBlock=some k:=λk=> .inl;have hmap:∀{b:Nat} {m:List (J.B×J.B)},dp w M b m→M b→¬(M b∧d2.ownBlock=some b):=λhm mb e=>jX h.e2 hm mb e.2;refine⟨⟨h.now.step hs (ha.block bn h.now.lt (hmap h.now h.mbn)),ez _ h.mbn, ?_,h.chs.keep hs h.mch (λk e=> ?_),λk e=>ez _ (h.mch k e),h.wrs.keep hs (λk e=> ?_) (λk e=> ?_),h.f0.step hs,h.f1.step hs,h.f2.step hs,h.f3.step hs,h.e0.step hs,h.e1.step hs,
  .inl ⟨ha.own,λk e=> .inr e⟩,h.e3.keep hs (λk _ m=>ez k m) (λk e m=>ha.block k (eZ h.e3 k e) (λe2=>h.dd k e2.2 e m)),λk e2 e3 m=> ?_⟩,hs⟩
 ·cases bw with
  |none=>exact h.was
  |some b=>obtain⟨q1,q2,q3,q4⟩:=h.was;exact⟨q1,q2.step hs (ha.block b q2.lt (hmap q2 q3)),ez _ q3,q4⟩
 ·obtain⟨RQ,_,h2,_⟩:=h.chs;exact ha.block k (h2.lt k e).2 (jY h.e2 h2 (by decide) h.mch k e)
 ·obtain⟨RQ,_,_,h2,_⟩:=h.wrs;exact ez _ (h2 k e)
 ·obtain⟨RQ,_,h2,hm,_⟩:=h.wrs;exact ha.block k (h2.lt k e).2 (jY h.e2 h2 (by decide) hm k e)
 ·have hk:=eZ h.e3 k e3;have:=ha.row k e2 hk;exact h.dd k this.2 e3 this.1
theorem bX.Ty {l:List UInt8} {v':Value} (h:bX w M s bn bw ch wr b0 b1 b2 b3 d0 d1 d2 d3) (ha:iy w w' M d3 v' l):
  bX w' (λk=>M k∨v'.ownBlock=some k) {s with disk:={s.disk with a1:=l}} bn bw ch wr b0 b1 b2 b3 d0 d1 d2 v'∧Step M (λk=>M k∨v'.ownBlock=some k) w w':=by
 have hs:Step M (λk=>M k∨v'.ownBlock=some k) w w':=⟨ha.os,ha.tape,ha.output,ha.size,λk hk hn=>ha.block k hk (λe=>hn e.1),λk hk e=>e.elim id (λe=>(ha.row k e hk).1)⟩;have ez:∀k,M k→M k∨v'.ownBlock=some k:=λk=> .inl;have hmap:∀{b:Nat} {m:List (J.B×J.B)},dp w M b m→M b→¬(M b∧d3.ownBlock=some b):=λhm mb e=>jX h.e3 hm mb e.2;refine⟨⟨h.now.step hs (ha.block bn h.now.lt (hmap h.now h.mbn)),ez _ h.mbn, ?_,h.chs.keep hs h.mch (λk e=> ?_),λk e=>ez _ (h.mch k e),h.wrs.keep hs (λk e=> ?_) (λk e=> ?_),h.f0.step hs,h.f1.step hs,h.f2.step hs,h.f3.step hs,h.e0.step hs,h.e1.step hs,
  h.e2.keep hs (λk _ m=>ez k m) (λk e m=>ha.block k (eZ h.e2 k e) (λe2=>h.dd k e e2.2 m)), .inl ⟨ha.own,λk e=> .inr e⟩,λk e2 e3 m=> ?_⟩,hs⟩
 ·cases bw with
  |none=>exact h.was
  |some b=>obtain⟨q1,q2,q3,q4⟩:=h.was;exact⟨q1,q2.step hs (ha.block b q2.lt (hmap q2 q3)),ez _ q3,q4⟩
 ·obtain⟨RQ,_,h2,_⟩:=h.chs;exact ha.block k (h2.lt k e).2 (jY h.e3 h2 (by decide) h.mch k e)
 ·obtain⟨RQ,_,_,h2,_⟩:=h.wrs;exact ez _ (h2 k e)
 ·obtain⟨RQ,_,h2,hm,_⟩:=h.wrs;exact ha.block k (h2.lt k e).2 (jY h.e3 h2 (by decide) hm k e)
 ·have hk:=eZ h.e2 k e2;have:=ha.row k e3 hk;exact h.dd k e2 this.2 this.1
end
end Go.Proofs.YtipljcmmokaokaaGreat
namespace Go.Proofs.YtipljcmmokaokaaGreat
open Go.RowKit Go.Lib Go.Maps Go.WideMaps Go.Sort Go.Shelf
set_option maxRecDepth 100000
attribute [local go_sem] Oper.semAt_some
def De (C:World→Nat→Prop) (W W':World):Prop:=
 (∀k o,W.heap[k]? =some o→o.isCells=true→¬C W k→W'.heap[k]? =some o)∧W.heap.size≤W'.heap.size∧∀k,k<W.heap.size→C W' k→C W k
theorem De.t {C:World→Nat→Prop} {A B D:World} (h:De C A B) (k:De C B D):De C A D:=
 ⟨λj o ho hc hn=>k.1 j o (h.1 j o ho hc hn) hc (λhcb=>hn (h.2.2 j (ai ho).1 hcb)),aw h.2.1 k.2.1,λj hj hd=>h.2.2 j hj (k.2.2 j (av hj h.2.1) hd)⟩
def keysOf (m:List (J.B×J.B)) (pre:ByteArray):List J.B:=(m.map (·.1)).filter λk=>Lib.hasPrefix k pre.data.toList
theorem iz (m:List (J.B×J.B)) (pre:ByteArray):(keysOf m pre).length≤m.length:=by
 have:=List.length_filter_le (λk=>Lib.hasPrefix k pre.data.toList) (m.map (·.1));rw[List.length_map]at this;exact this
theorem vR {m:List (J.B×J.B)} (h:J.ri m) (pre:ByteArray) {ss:List J.B} (hp:ss.Perm (m.map (·.1))):(ss.filter λk=>Lib.hasPrefix k pre.data.toList).mergeSort (λx y=>decide (x≤y))=keysOf m pre:=by
 rw[mergeSort_of_perm (hp.filter _)];refine List.mergeSort_of_pairwise (List.Pairwise.filter _ ?_);rw[List.pairwise_map];exact List.Pairwise.imp (λ{a b} hab=>by simpa using List.le_of_lt hab) h
theorem Tryz.RU:(Tryz.prog.info? 9).map (λi=>(i.zero,i.size,i.bytes))=some (some (.string ⟨#[]⟩),1,16):=by kernel_rfl
theorem nV {w w':World} (h:Below w.heap.size w w'):w.grownBy w' none:=
 ⟨h.os,h.tape,h.output,h.size,λk hk _=>h.block k hk⟩
theorem GJ {w:World} {base n size:Nat} {e:TypeId} {v:Value} {xs:List Value} (h:w.ownsRow base e size v n xs):∀g,v.ownBlock=some g→∃o,w.heap[g]? =some o∧o.isCells=true:=by
 intro g hg;rcases h.2 with⟨rfl,_⟩|⟨g',cap,cur,rfl,_,hh,_⟩
 ·cases hg
 ·have:g'=g:=(by simpa [Value.ownBlock] using hg);subst this;exact⟨_,hh,rfl⟩
theorem Df (n:Nat) (hn:1≤n) (l Bs Bp p b:Nat) (pre:ByteArray) (m:List (J.B×J.B)) (M:Nat→Prop) (C:World→Nat→Prop) (Jv Jx:List J.B→World→Prop) (xP:m.length≤100000000)
  (hY:∀xs x W,Jv xs W→xs.length<(keysOf m pre).length→YieldAt Fence.wide (n - 1) Tryz.prog l #[encStr x] W λe W'=>(e= .returned (.bool true)∧Jv (xs++[x]) W'∧De C W W')∨(e= .returned (.bool false)∧Jx (xs++[x]) W'))
  (W:World) (hJ:AbidesFrom W.heap.size Jv) (hs:W.cell? ⟨Bs,0,none⟩=some (.pointer (some ⟨p,0,none⟩))) (hp:W.cell? ⟨Bp,0,none⟩=some (.string pre)) (hrow:W.cell? ⟨p,2,none⟩=some (.map (some b))) (hm:dp W M b m)
  (hC:∀W',Below W.heap.size W W'→∀k,C W' k→k<W.heap.size) (h0:Jv [] W):
  CallsIn Fence.wide n Tryz.prog 132 #[.func (.yield l) #[] #[], .pointer (some ⟨Bs,0,none⟩), .pointer (some ⟨Bp,0,none⟩)] W λe W'=>(∃v,e= .returned v)∧
   ((∃ys,ys=keysOf m pre∧Jv ys W')∨(∃q,q<+:keysOf m pre∧Jx q W')):=by
 obtain⟨i0,hi,hz0,hz1,hz2⟩:=info_parts Tryz.RU;have Ju:=hm;obtain⟨D,hown,nM,nP,hval⟩:=hm;have hbl:=hown.lt;have hsz:Maps.size D=m.length:=Ju.size_eq hown nP;have HM:=ae Ju;have xN:=ae hsz;have HH:=ae nP;have HOW:=ae hown;have HY:=ae hY;have HC:=ae hC;have HJ:=ae hJ;have H0:=ae h0;have HA:=ae nM;clear hval Ju nP hsz hY hC hJ h0 nM;have hBp:Bp<W.heap.size:=World.block_lt_of_cell? W ⟨Bp,0,none⟩ hp;refine callsIn_of_wp Tryz.func132 rfl trivial ?_ rfl;simp only[Tryz.ntmps132,List.size_toArray,List.length_cons,List.length_nil,Nat.reduceAdd,Nat.reduceSub,Array.replicate_succ,Array.replicate_zero,List.push_toArray,List.append_toArray,List.nil_append,List.cons_append]
 gi_wp2_with (first
  |(gi_at_range;refine wpListIn_range_own _ rfl _ 94 rfl 9 40 qi Tryz.underlying94 _ b (Maps.size D) _ rfl hown ?_;intro w0 hrg0 hg0 hs0)
  |gi_in)
 go_frame
 gi_loopw [4] (λlv wr=>∃(left:Lit→Bool) (cnt:Nat) (ss:List J.B),wr.ranges Tryz.prog 9 dm b W.heap.size (Maps.size D) D left cnt∧ss.length+cnt≤m.length∧
   wr.ownsRow W.heap.size 9 1 lv (ss.filter λk=>Lib.hasPrefix k pre.data.toList).length ((ss.filter λk=>Lib.hasPrefix k pre.data.toList).map encStr)∧Collected D left ss∧Below W.heap.size W wr)
  (λ_ wr=>wr.rangeLeft b W.heap.size)
 case atStart=>
  exact⟨_,_,[],hrg0,by have:=xN.out;simp;omega,World.ownsRow_nil _ _ _ _,Collected.start D,(ak _ W).grown hg0 (aq _) (λj hj=>by cases hj)⟩
 case round=>
  obtain⟨left,cnt,ss,hrg,hcs,hrow2,Tz,hB⟩:=hrel;have hJW:Jv [] wr:=HJ.out [] W wr none H0.out (nV hB) (λr e=>by cases e);have Jw:wr.cell? ⟨Bp,0,none⟩=some (.string pre):=(hB.cell (p:=⟨Bp,0,none⟩) hBp).trans hp;have HB:=ae hB;have HJW:=ae hJW;clear hJW hB
  gi_wp2_with (first
   |(gi_at_next;refine wpListIn_next_ranges _ rfl _ rfl 9 qi dm encStr id (λkey kl hk=>by obtain⟨x,hx,_⟩:=Maps.keyOf_str Tryz.underlying9 hk;exact⟨x,hx⟩) (λv y hv=>⟨v,rfl⟩) b W.heap.size (Maps.size D) _ _ _ rfl hrg ?_ ?_)
   |gi_in)
  ·intro hc0 hl0;have RV:ss.Perm (m.map (·.1)):=(Tz.perm HOW.out qi Tryz.underlying9 hl0).trans (HM.out.perm D _ HOW.out HH.out).symm;have WD:=vR HA.out pre RV;have HS:=ae WD;clear RV WD;rcases hrow2.2 with⟨rfl,CM⟩|⟨g,cap,cur,rfl,hbase,hbk,h1,h2,h3,h4⟩
   ·have ej:keysOf m pre=[]:=by
     have:=congrArg List.length HS.out;rw[List.length_mergeSort,CM]at this;exact List.eq_nil_of_length_eq_zero this.symm
    have Dg:=ae ej;clear ej hrg hcs hrow2 Tz hc0 hl0 CM
    gi_wp2_with fail
    refine⟨trivial,(callsIn_wide.2 (Tryz.slices_Sort_string_none none 0 wr)).mono ?_⟩;rintro e w3 ⟨rfl,rfl⟩
    gi_wp2
    gi_loopw [28] (λi W2=>i= .int .i64 0∧Jv [] W2) (λ_ _=>0)
    case atStart=>exact⟨rfl,HJW.out⟩
    case round=>
     obtain⟨rfl,hj⟩:=hrel
     gi_wp2
     go_end0;exact⟨⟨_,rfl⟩, .inl ⟨[],Dg.out.symm,hj⟩⟩
   ·have hH:Holds encStr wr g 0 (ss.filter λk=>Lib.hasPrefix k pre.data.toList).toArray:=holds_of_block hbk (by simpa using h4);have Cl:g<wr.heap.size:=(ai hbk).1;have RX:(ss.filter λk=>Lib.hasPrefix k pre.data.toList).length≤ss.length:=List.length_filter_le _ _;have hc:=Tryz.slices_Sort_string g 0 cap (ss.filter λk=>Lib.hasPrefix k pre.data.toList) wr hH Cl (by omega);have hlen:(ss.filter λk=>Lib.hasPrefix k pre.data.toList).length=(keysOf m pre).length:=(by rw[←HS.out];exact(List.length_mergeSort _).symm);have hs2:(ss.filter λk=>Lib.hasPrefix k pre.data.toList).mergeSort (λx y=>decide (x≤y))=keysOf m pre:=HS.out;rw[hs2]at hc;have HL:=ae hlen;have jZ:=ae (show∀os nn,_ fromλos nn=>ownsRow_sorted (ss:=ss.filter λk=>Lib.hasPrefix k pre.data.toList) (ts:=keysOf m pre) hlen.symm hbase hbk h1 h2 h3 (os:=os) (n:=nn));have HC1:=ae hc;have vF:=ae hbase;have HCP:=ae h1;clear hH Cl RX hc hlen hs2 hrg hcs hrow2 Tz hc0 hl0 hbk h2 h3 h4 hbase h1
    gi_wp2_with fail
    refine⟨trivial,(callsIn_wide.2 HC1.out).mono ?_⟩;rintro e w3 ⟨rfl,nn,os,hw3⟩;have dH:=jZ.out os nn;have hb3:=HB.out.grown (grownBy_sorted (w:=wr) (g:=g) (n:=nn) (os:=os) (keysOf m pre).toArray) HB.out.size (λj hj=>by cases hj;exact vF.out);rw[←hw3]at dH hb3;rw[HL.out]at dH⊢;have hJ3:Jv [] w3:=HJ.out [] W w3 none H0.out (nV hb3) (λr e=>by cases e);have hC3:¬C w3 g:=λh=>absurd (HC.out w3 hb3 g h) (by have:=vF.out;omega);have kx:=ae dH;have VO:=ae hJ3;have sk:=ae hC3;clear dH hb3 hJ3 hC3 hw3;have Fq:=iz m pre
    gi_wp2
    gi_loopw [28] (λi W2=>∃k:Nat,k≤(keysOf m pre).length∧i= .int .i64 k∧Jv ((keysOf m pre).take k) W2∧W2.ownsRow W.heap.size 9 1 (.slice (some ⟨g,0,none⟩) (keysOf m pre).length cap) (keysOf m pre).length ((keysOf m pre).map encStr)∧¬C W2 g) (λi _=>(keysOf m pre).length - (intOf i).toNat)
    case atStart=>exact⟨0,Nat.zero_le _,rfl,VO.out,kx.out,sk.out⟩
    case round=>
     obtain⟨k,hk,rfl,hj,ho,Ox⟩:=hrel;have HJK:=ae hj;have OA:=ae ho;have HNC:=ae Ox;clear hj ho Ox;by_cases hlt:k<(keysOf m pre).length
     ·obtain⟨fn,tmps,assign,body,hy,hR⟩:=HY.out _ ((keysOf m pre)[k]) wr HJK.out (by rw[List.length_take];omega);have hcell:wr.cell? ⟨g,k,none⟩=some (encStr ((keysOf m pre)[k])):=by
       have:=OA.out.cellAt k (by omega);show wr.cell? ⟨g,k,none⟩=_;rw[this];simp[hlt]
      have tC:=ae (List.take_succ_eq_append_getElem hlt)
      gi_wp2_with fail
      refine hR.mono ?_;rintro e W4 (⟨rfl,hj4,hk4⟩|⟨rfl,RY⟩)
      ·have cq:=GJ OA.out g rfl;have hgk:W4.heap[g]? =wr.heap[g]? :=(by obtain⟨o,ho,hc⟩:=cq;rw[hk4.1 g o ho hc HNC.out,ho]);have ho4:=dW OA.out (w':=W4) (λk e=>by have:g=k:=(by simpa [Value.ownBlock] using e);subst this;exact hgk);have CX:¬C W4 g:=λh=>HNC.out (hk4.2.2 g (ai cq.choose_spec.1).1 h);have lJ:=ae ho4;have HN4:=ae CX;have HJ4:=ae hj4;clear ho4 CX hj4 hk4 cq hgk
       gi_wp2
       go_roundw
       case rel=>exact⟨k+1,by omega,by go_num,by rw[tC.out];exact HJ4.out,lJ.out,HN4.out⟩
       case measure=>simp[intOf];omega
      ·have TA:=ae RY;clear RY
       gi_wp2
       refine bodyPost_ret (results_none rfl _ _ _) rfl ?_;exact⟨⟨_,rfl⟩, .inr ⟨_,List.take_prefix (k+1) _,by rw[tC.out];exact TA.out⟩⟩
     ·obtain rfl:k=(keysOf m pre).length:=(by omega);have hj':=HJK.out;rw[List.take_length]at hj';have WE:=ae hj';clear hj'
      gi_wp2
      go_end0;exact⟨⟨_,rfl⟩, .inl ⟨_,rfl,WE.out⟩⟩
  ·intro x c kl yd yp w2 cnt2 hkey hlk hv hat hrg2 hlt hg2 hs2 hen;obtain⟨x',ex,rfl,_⟩:=Maps.keyOf_str Tryz.underlying9 hkey;obtain rfl:x=x':=encStr_inj ex;have hrow3:=hrow2.kept hg2 (Or.inr (row_ne_iter hrow2 hrg).symm);have af5:w2.cell? ⟨Bp,0,none⟩=some (.string pre):=((HB.out.grown hg2 HB.out.size (λj hj=>by cases hj;exact aq _)).cell (p:=⟨Bp,0,none⟩) hBp).trans hp;clear hs2;have VP:=Tryz.strings_HasPrefix ⟨x.toArray⟩ pre w2;have Zz:=List.filter_append (p:=λk=>Lib.hasPrefix k pre.data.toList) ss [x];cases hb:Lib.hasPrefix x pre.data.toList with
   |false=>
    rw[show Lib.hasPrefix (⟨x.toArray⟩:ByteArray).data.toList pre.data.toList=false from hb]at VP;have GC:(ss++[x]).filter (λk=>Lib.hasPrefix k pre.data.toList)=ss.filter (λk=>Lib.hasPrefix k pre.data.toList):=(by rw[Zz];simp[hb]);have Ph:=ae GC;have xQ:=ae hrow3;have RZ:=ae hrg2;have br:=ae (HB.out.grown hg2 HB.out.size (λj hj=>by cases hj;exact aq _));have HME:=ae (show w2.rangeLeft b W.heap.size<wr.rangeLeft b W.heap.size by rw[hrg2.left_eq,hrg.left_eq];exact hlt);have Ah:=ae (Tz.step hlk hat);have Ai:=ae VP;clear GC Zz hrow3 hrg2 hg2 hrow2 hrg VP Tz hat
    gi_wp2_with fail
    refine⟨trivial,(callsIn_wide.2 Ai.out).mono ?_⟩;rintro e w3 ⟨rfl,hw3⟩;obtain rfl:w2=w3:=hw3.symm
    gi_wp2
    go_roundw
    case rel=>exact⟨_,cnt2,ss++[x],RZ.out,by simp;omega,by rw[Ph.out];exact xQ.out,Ah.out,br.out⟩
    case measure=>exact HME.out
   |true=>
    rw[show Lib.hasPrefix (⟨x.toArray⟩:ByteArray).data.toList pre.data.toList=true from hb]at VP;have GC:(ss++[x]).filter (λk=>Lib.hasPrefix k pre.data.toList)=ss.filter (λk=>Lib.hasPrefix k pre.data.toList)++[x]:=(by rw[Zz];simp[hb]);have Ph:=ae GC;have RX:(ss.filter λk=>Lib.hasPrefix k pre.data.toList).length≤ss.length:=List.length_filter_le _ _;have br:=ae (HB.out.grown hg2 HB.out.size (λj hj=>by cases hj;exact aq _));have RZ:=ae hrg2;have ZA:=ae (show w2.rangeLeft b W.heap.size<wr.rangeLeft b W.heap.size by rw[hrg2.left_eq,hrg.left_eq];exact hlt);have Ah:=ae (Tz.step hlk hat);have Ai:=ae VP;have xQ:=ae hrow3;clear GC Zz hrow2 hrg hrg2 hg2 VP Tz hat
    gi_wp2_with fail
    refine⟨trivial,(callsIn_wide.2 Ai.out).mono ?_⟩;rintro e w3 ⟨rfl,hw3⟩;obtain rfl:w2=w3:=hw3.symm
    gi_wp2_with (first
     |(gi_at_builtin;refine wpListIn_append_own _ rfl _ _ 93 rfl W.heap.size 9 i0 (.string ⟨#[]⟩) 1 16 Tryz.underlying93 hi hz0 hz1 hz2 rfl (by decide) _ _ _ rfl (xQ.out.alloc _) ⟨w2.heap.size,0,none⟩ 1 1 [encStr x] rfl rfl (cell_one_new _ _ _) (by simp[Value.oneCell',encStr]) (by unfold maxLen at*;omega) (by omega) (by have:=br.out.size;simp;omega) ?_;intro v' w4 hown' hg3 hnil3)
     |gi_in)
    have hb2:Below W.heap.size W (w2.alloc (.cells #[encStr x] 9)):=br.out.alloc br.out.size _;have hrg3:=(RZ.out.alloc (.cells #[encStr x] 9)).kept hg3 (row_ne_low xQ.out hbl) (row_ne_iter xQ.out RZ.out);refine⟨⟨_,cnt2,ss++[x],hrg3,by simp;omega, ?_,Ah.out,hb2.grown hg3 hb2.size (λj hj=>(xQ.out.lt j hj).1)⟩,by rw[hrg3.left_eq,←RZ.out.left_eq];exact ZA.out⟩;rw[Ph.out]
    simpa using hown'
theorem qs (n:Nat) (hn:1≤n) (Bs Bp p b:Nat) (pre:ByteArray) (m:List (J.B×J.B)) (M:Nat→Prop) (C:World→Nat→Prop) (xP:m.length≤100000000) (w:World)
  (hs:w.cell? ⟨Bs,0,none⟩=some (.pointer (some ⟨p,0,none⟩))) (hp:w.cell? ⟨Bp,0,none⟩=some (.string pre)) (hrow:w.cell? ⟨p,2,none⟩=some (.map (some b))) (hm:dp w M b m)
  (hC:∀W,Below w.heap.size w W→∀k,C W k→k<w.heap.size):
  SeqStopsK Fence.wide n Tryz.prog 132 #[.pointer (some ⟨Bs,0,none⟩), .pointer (some ⟨Bp,0,none⟩)] (λx=>#[encStr x]) (De C) (λys=>ys=keysOf m pre) (λq=>q<+:keysOf m pre) (keysOf m pre).length w:=λl Jv Jx W hW hJ _ hY h0=>by
 have hc:∀{a:Addr} {v:Value},w.cell? a=some v→W.cell? a=some v:=λ{a v} h=>(hW.cell (p:=a) (World.block_lt_of_cell? w a h)).trans h;exact Df n hn l Bs Bp p b pre m M C Jv Jx xP hY W hJ (hc hs) (hc hp) (hc hrow) (hm.step (Step.aI hW) (hW.block b hm.lt))
  (λW' hb k hk=>av (hC W' (hW.trans (hb.mono hW.size)) k hk) hW.size) h0
theorem uq (a:Value) (pre:ByteArray) (w:World) (ha:∃r,a= .pointer r):
  CallsIn Fence.wide 5 Tryz.prog 101 #[a, .string pre] w λe w'=>e= .returned (.func (.func 132) #[] #[.pointer (some ⟨w.heap.size,0,none⟩), .pointer (some ⟨w.heap.size+1,0,none⟩)])∧w'=(w.alloc (.cells #[a] 24)).alloc (.cells #[.string pre] 9):=by
 obtain⟨r,rfl⟩:=ha;refine callsIn_of_wp Tryz.func101 rfl trivial ?_ rfl;simp only[Tryz.ntmps101,List.size_toArray,List.length_cons,List.length_nil,Nat.reduceAdd,Nat.reduceSub,Array.replicate_succ,Array.replicate_zero,List.push_toArray,List.append_toArray,List.nil_append,List.cons_append]
 gi_wp2
 go_ret;exact⟨rfl,rfl⟩
attribute [local go_sem] Oper.semAt_some
def TB (B:Nat) (W:World) (k:Nat):Prop:=k=B∨∃v,Boxed W B 93 v∧v.ownBlock=some k
theorem wH {W:World} {B:Nat} {t:TypeId} {u v:Value} (h:Boxed W B t u) (h':Boxed W B t v):u=v:=by
 have:=(show W.heap[B]? =_ from h).symm.trans h';injection this with e;injection e with e;injection e with e;injection e
theorem KQ {B:Nat} {w:World} (hB:B<w.heap.size) (W:World) (l:Nat) (o o':Obj) (hl:w.heap.size≤l) (h:W.heap[l]? =some o) (hc:o.isCells=false) (_:o.isWalk=false):De (TB B) W (W.putObj l o'):=by
 refine⟨λk q hq Sa _=> ?_,by simp,λk _ hk=> ?_⟩
 ·have:k≠l:=λe=>by subst e;rw[h]at hq;injection hq with hq;subst hq;rw[hc]at Sa;cases Sa
  exact(World.putObj_heap_other this).trans hq
 ·rcases hk with rfl|⟨v,hv,hk⟩
  ·exact .inl rfl
  ·exact .inr ⟨v,(World.putObj_heap_other (by omega)).symm.trans hv,hk⟩
theorem Aj {W w1:World} {B:Nat} {v v':Value} {tmp:Obj} (hv:Boxed W B 93 v) (hv2:Boxed (w1.setCell ⟨B,0,none⟩ v') B 93 v') (hg:(W.alloc tmp).grownBy w1 v.ownBlock) (hat:v'.ownBlock=v.ownBlock∨v'.ownBlock=some (W.alloc tmp).heap.size):
  De (TB B) W (w1.setCell ⟨B,0,none⟩ v'):=by
 refine⟨λk q hq _ hn=> ?_, ?_,λk hk hc=> ?_⟩
 ·have dV:k<W.heap.size:=(ai hq).1;have h1:k≠B:=λe=>hn (.inl e);have h2:some k≠v.ownBlock:=λe=>hn (.inr ⟨v,hv,e.symm⟩);exact(Below.heap_setCell _ _ _ k h1).trans ((hg.block k (by simp;omega) h2).trans ((Below.heap_alloc _ _ _ dV).trans hq))
 ·have:=hg.size;have h2:=(KeepsWalks.setCell w1 ⟨B,0,none⟩ v').size;simp at this;omega
 ·rcases hc with rfl|⟨u,hu,hk2⟩
  ·exact .inl rfl
  ·obtain rfl:=wH hu hv2;rcases hat with e|e
   ·exact .inr ⟨v,hv,e▸hk2⟩
   ·rw[e]at hk2;injection hk2 with hk2;simp at hk2;omega
theorem appendSeq_in (Bs Bp p b:Nat) (pre:ByteArray) (m:List (J.B×J.B)) (M:Nat→Prop) (xP:m.length≤100000000) (w:World)
  (hs:w.cell? ⟨Bs,0,none⟩=some (.pointer (some ⟨p,0,none⟩))) (hp:w.cell? ⟨Bp,0,none⟩=some (.string pre)) (hrow:w.cell? ⟨p,2,none⟩=some (.map (some b))) (hm:dp w M b m):
  CallsIn Fence.wide 5 Tryz.prog 131 #[.slice none 0 0, .func (.func 132) #[] #[.pointer (some ⟨Bs,0,none⟩), .pointer (some ⟨Bp,0,none⟩)]] w λe w'=>∃v,e= .returned v∧
   w'.ownsRow w.heap.size 9 1 v (keysOf m pre).length ((keysOf m pre).map encStr)∧Below w.heap.size w w':=by
 obtain⟨i0,hi,hz0,hz1,hz2⟩:=info_parts Tryz.RU;have dV:=iz m pre;have ZB:Below w.heap.size w (w.alloc (.cells #[.slice none 0 0] 93)):=(ak _ w).alloc (aq _) _;have hc:∀{a:Addr} {v:Value},w.cell? a=some v→(w.alloc (.cells #[.slice none 0 0] 93)).cell? a=some v:=λ{a v} h=>(ZB.cell (p:=a) (World.block_lt_of_cell? w a h)).trans h;have bO:=Boxed.new w 93 (.slice none 0 0);have hst:=qs 4 (by omega) Bs Bp p b pre m M (TB w.heap.size) xP (w.alloc (.cells #[.slice none 0 0] 93)) (hc hs) (hc hp) (hc hrow) (hm.step (Step.aI ZB) (ZB.block b hm.lt)) (by
  rintro W hW k (rfl|⟨v,hv,hk⟩)
  ·simp
  ·have hv0:Boxed W w.heap.size 93 (.slice none 0 0):=(hW.block w.heap.size (by simp)).trans bO;obtain rfl:=wH hv hv0;cases hk)
 refine callsIn_of_wp_marks Tryz.func131 rfl trivial ?_ rfl;simp only[Tryz.ntmps131,List.size_toArray,List.length_cons,List.length_nil,Nat.reduceAdd,Nat.reduceSub,Array.replicate_succ,Array.replicate_zero,List.push_toArray,List.append_toArray,List.nil_append,List.cons_append]
 gi_wp2
 refine wpIn_rangeFunc_ownF rfl (by omega) (gf:=132) (lb:=#[.pointer (some ⟨Bs,0,none⟩), .pointer (some ⟨Bp,0,none⟩)]) rfl trivial (enters_of Tryz.func132 (by kernel_rfl) rfl)
  hst De.t (KQ (by simp)) (ak _ _) (λ_=>rfl)
  (λpr W=>(∃v,Boxed W w.heap.size 93 v∧W.ownsRow w.heap.size 9 1 v pr.length (pr.map encStr)∧True)∧Below w.heap.size w W)
  (λ_ _ _=>False)
  (OwnFrom.and (Own.from (holdsRow_own w.heap.size w.heap.size 93 9 1 (λpr:List J.B=>pr.length) (λpr=>pr.map encStr) (λ_ _=>True)) _) (ownFrom_below (aq _) (by simp)))
  (λ_ _ _ _ _ hs _ _=>hs)
  ⟨⟨_,bO,World.ownsRow_nil _ _ _ _,trivial⟩,ZB⟩
  (λx=>{tmps:=#[.slice none 0 0, .func (.func 132) #[] #[.pointer (some ⟨Bs,0,none⟩), .pointer (some ⟨Bp,0,none⟩)], .pointer (some ⟨w.heap.size,0,none⟩),undef, .slice none 0 0,encStr x, .func (.func 132) #[] #[.pointer (some ⟨Bs,0,none⟩), .pointer (some ⟨Bp,0,none⟩)],encStr x,undef,undef,undef,undef,undef],defers:=[]}) ?assign ?body ?done ?stop
 case assign=>
  intro l x W K hK
  gi_wp2
  exact hK
 case body=>
  rintro l pr x W ⟨⟨v,hv,hrow,_⟩,hB⟩ hlt;have hc:=hv.cell
  gi_wp2_with (gi_at_builtin;refine wpListIn_append_own_at _ rfl _ _ 93 rfl w.heap.size 9 i0 (.string ⟨#[]⟩) 1 16 Tryz.underlying93 hi hz0 hz1 hz2 rfl (by decide) _ _ _ rfl (hrow.alloc _) ⟨W.heap.size,0,none⟩ 1 1 [encStr x] rfl rfl (cell_one_new _ _ _) (by simp[Value.oneCell',encStr]) (by unfold maxLen;omega) (by omega) (by have:=hB.size;simp;omega) ?_;intro v' w1 hown' hgrow _ hat;obtain⟨g',cap',rfl⟩:=ownsRow_succ hown';obtain⟨KR,hv2,hr2,hk2,hb2⟩:=hv.appended (by decide) hrow hB.size (aq _) hown' hgrow;have hc1:=KR.cell;have GC:=KR.frozen)
  exact⟨hk2,Aj hv hv2 hgrow hat,⟨_,hv2,by simpa using hr2,trivial⟩,hB.trans hb2⟩
 case done=>
  rintro D ys W hD rfl ⟨⟨v,hv,hrow,_⟩,hB⟩ hK;have hc:=hv.cell
  gi_wp2
  refine⟨by simp, .inl ⟨_,_,rfl,run_takeDeferred hK, ?_⟩⟩;exact⟨_,results_tmp rfl _ _ _,v,rfl,ownsRow_putObj hrow _ hK rfl,hB.trans (belowK_b (w:=w) (aq _) W D _ _ (by simp at hD;omega) hK rfl rfl)⟩
 case stop=>
  rintro D c pr W _ _ h _;exact h.elim
theorem collect_in (Bs Bp p b:Nat) (pre:ByteArray) (m:List (J.B×J.B)) (M:Nat→Prop) (xP:m.length≤100000000) (w:World)
  (hs:w.cell? ⟨Bs,0,none⟩=some (.pointer (some ⟨p,0,none⟩))) (hp:w.cell? ⟨Bp,0,none⟩=some (.string pre)) (hrow:w.cell? ⟨p,2,none⟩=some (.map (some b))) (hm:dp w M b m):
  Calls Tryz.prog 100 #[.func (.func 132) #[] #[.pointer (some ⟨Bs,0,none⟩), .pointer (some ⟨Bp,0,none⟩)]] w λe w'=>∃v,e= .returned v∧
   w'.ownsRow w.heap.size 9 1 v (keysOf m pre).length ((keysOf m pre).map encStr)∧Below w.heap.size w w':=by
 have H:=ae (callsIn_wide.1 (appendSeq_in Bs Bp p b pre m M xP w hs hp hrow hm));clear hs hp hrow hm;go_enter Tryz.func100,Tryz.ntmps100;go_wp2_with fail;refine H.out.mono ?_;rintro e w' ⟨v,rfl,hown,hb⟩;have HO:=ae hown;have HB:=ae hb;clear hown hb;go_wp2;go_ret;exact⟨v,rfl,HO.out,HB.out⟩
theorem GK (A:Option Addr) (n c:Nat) (w:World) (hc:n≤c) (h:A=none→n=0∧c=0):
  Calls Tryz.prog 99 #[.slice A n c] w λe w'=>e= .returned (.slice A n n)∧w=w':=by
 cases A with
 |some a=>
  clear h;go_enter Tryz.func99,Tryz.ntmps99;go_wp2;go_ret;exact⟨rfl,rfl⟩
 |none=>
  obtain⟨rfl,rfl⟩:=h rfl;clear h hc;go_enter Tryz.func99,Tryz.ntmps99;go_wp2;go_ret;exact⟨rfl,rfl⟩
def gP (w:World) (A:Option Addr) (ks:List J.B):Prop:=0<ks.length→∃g,A=some ⟨g,0,none⟩∧g<w.heap.size∧∀j (h:j<ks.length),w.cell? ⟨g,j,none⟩=some (encStr ks[j])
theorem gP.below {w w':World} {A:Option Addr} {ks:List J.B} (h:gP w A ks) (hb:Below w.heap.size w w'):gP w' A ks:=λhn=>by
 obtain⟨g,e,hg,hc⟩:=h hn;exact⟨g,e,av hg hb.size,λj hj=>(hb.cell (p:=⟨g,j,none⟩) hg).trans (hc j hj)⟩
theorem KS (p:Nat) (pre:ByteArray) (M:Nat→Prop) (s:J.St) (w:World) (h:bA w p M s) (xP:s.now.length≤100000000):
  Calls Tryz.prog 47 #[.pointer (some ⟨p,0,none⟩), .string pre] w λe w'=>∃A,e= .returned (.slice A (keysOf s.now pre).length (keysOf s.now pre).length)∧gP w' A (keysOf s.now pre)∧(∀k,(Value.slice A (keysOf s.now pre).length (keysOf s.now pre).length).ownBlock=some k→w.heap.size≤k)∧Below w.heap.size w w':=by
 have vG:=ae (oF p M s w h);have HS:=ae (callsIn_wide.1 (uq (.pointer (some ⟨p,0,none⟩)) pre w ⟨_,rfl⟩));obtain⟨bn,bw,ch,wr,b0,b1,b2,b3,d0,d1,d2,d3,h1,h2,h3,h4⟩:=h;have hB:Below w.heap.size w ((w.alloc (.cells #[.pointer (some ⟨p,0,none⟩)] 24)).alloc (.cells #[.string pre] 9)):=((ak _ w).alloc (aq _) _).alloc (by simp) _;have b1':=Boxed.new (w.alloc (.cells #[.pointer (some ⟨p,0,none⟩)] 24)) 9 (.string pre);rw[World.size_alloc]at b1';have HC:=ae (collect_in w.heap.size (w.heap.size+1) p bn pre s.now M xP _ ((Boxed.new w 24 (.pointer (some ⟨p,0,none⟩))).alloc _).cell b1'.cell ((hB.cell (p:=⟨p,2,none⟩) (ai h1).1).trans (ah w p 2 _ _ _ h1)) (h3.now.step (Step.aI hB) (hB.block bn h3.now.lt)));have HB:=ae hB;clear h1 h2 h3 h4 hB b1';go_enter Tryz.func47,Tryz.ntmps47;go_wp2_with fail;refine vG.out.mono ?_;rintro e w1 ⟨rfl,rfl⟩;go_wp2_with fail;refine HS.out.mono ?_;rintro e w1 ⟨rfl,rfl⟩;go_wp2_with fail;refine HC.out.mono ?_;rintro e w2 ⟨v,rfl,hown,hb2⟩;have hst:∃A c,v= .slice A (keysOf s.now pre).length c∧(keysOf s.now pre).length≤c∧(A=none→(keysOf s.now pre).length=0∧c=0)∧gP w2 A (keysOf s.now pre)∧∀k,v.ownBlock=some k→w.heap.size≤k:=by
  have hc:=hown;rcases hown.2 with⟨rfl,h0⟩|⟨g,cap,cur,rfl,hbase,hbk,q1,q2⟩
  ·exact⟨none,0,by rw[h0],by omega,λ_=>⟨h0,rfl⟩,λhn=>absurd hn (by omega),λk e=>by cases e⟩
  ·refine⟨_,cap,rfl,q1,λe=>(by cases e),λ_=>⟨g,rfl,(ai hbk).1,λj hj=> ?_⟩,λk e=> ?_⟩
   ·rw[hc.cellAt j (by omega)];simp[hj]
   ·have:g=k:=(by simpa [Value.ownBlock] using e);simp at hbase;omega
 obtain⟨A,c,rfl,Fs,hA,hSt,dX⟩:=hst;have HST:=ae hSt;have vF:=ae dX;have br:=ae (HB.out.trans (hb2.mono (by simp;omega)));have nb:=ae (GK A _ c w2 Fs hA);clear hown hb2 hSt dX hA Fs;go_wp2_with fail;refine nb.out.mono ?_;rintro e w3 ⟨rfl,rfl⟩;go_wp2;go_ret;exact⟨A,rfl,HST.out,λk e=>vF.out k (by cases A<;>exact e),br.out⟩
end Go.Proofs.YtipljcmmokaokaaGreat
namespace Go.Proofs.YtipljcmmokaokaaGreat
open Go.RowKit Go.Lib Go.Maps Go.WideMaps
set_option maxRecDepth 100000
theorem fq {ops:Array Oper} {o:Oper} {a:Act} {w:World} {K:Act→World→Prop} {Q:Exit→Act→World→Prop} {E:Prop} (hgd:o.guard=none) (s x:Operand) (ho:o.op= .call {callee:= .builtin .append,args:=#[s,x],argTypes:=#[97,97]})
  (v:Value) (n:Nat) (xs:List Value) (hs:a.eval s=v) (hown:w.ownsRow 0 139 3 v n xs) (ad:Addr) (m c:Nat) (news:List Value) (hx:a.eval x= .slice (some ad) m c) (hl:news.length=m*3) (hnews:∀j u,news[j]? =some u→w.cell? (ad.add j)=some u) (h1:∀u∈news,u.oneCell'=true)
  (hb:n+m≤100000000)
  (h:∀v' w',w'.ownsRow 0 139 3 v' (n+m) (xs++news)→w.grownBy w' v.ownBlock→(v'.ownBlock=v.ownBlock∨v'.ownBlock=some w.heap.size)→K (a.put o.dst v') w'):
  if Region.wanted o (yielded ops a.tmps)=true then Oper.wp Tryz.prog o a w K Q else E:=by
 obtain⟨i0,hi,hz0,hz1,hz2⟩:=info_parts Tryz.WC;have hw:Region.wanted o (yielded ops a.tmps)=true:=by simp[Region.wanted,hgd]
 rw[if_pos hw];obtain⟨v',w',hrun,h2,h3,h4,h5⟩:=run_append_own_at (P:=Tryz.prog) w 0 97 o.type 139 i0 _ 3 40 Tryz.underlying97 hi hz0 hz1 hz2 rfl (by decide) v n xs hown ad m c news hl hnews h1 (by unfold maxLen;omega) (by omega) (Nat.zero_le _);unfold Oper.wp execOp;simp only[ho,resolve,invoke,builtin,Sem.run_bind,Sem.run_pure,Result.andThen_ok,List.map_toArray,List.map_cons,List.map_nil,hs,hx,hrun];exact h v' w' h2 h3 h5
theorem qu {w:World} {g g' i:Nat} {u:Value} {o:Obj} (h:w.heap[g]? =some o) (hne:g'≠g):(w.setCell ⟨g',i,none⟩ u).heap[g]? =some o:=by
 simp[World.setCell,Array.getElem?_modify,h,hne]
theorem pj {ops:Array Oper} {o:Oper} {a:Act} {w:World} {K:Act→World→Prop} {Q:Exit→Act→World→Prop} {E:Prop} (hgd:o.guard=none) (s x:Operand) (ho:o.op= .call {callee:= .builtin .append,args:=#[s,x],argTypes:=#[40,40]})
  (M:Nat→Prop) (v:Value) (l:List UInt8) (hs:a.eval s=v) (ha:fG w M v l) (M2:Nat→Prop) (A:Option Addr) (m c:Nat) (x':List UInt8) (hx:a.eval x= .slice A m c) (hy:By w M2 A m x') (h0:0<m) (hb:l.length+m≤100000000)
  (h:∀v' w',iy w w' M v v' (l++x')→K (a.put o.dst v') w'):
  if Region.wanted o (yielded ops a.tmps)=true then Oper.wp Tryz.prog o a w K Q else E:=by
 have hw:Region.wanted o (yielded ops a.tmps)=true:=by simp[Region.wanted,hgd]
 rw[if_pos hw];obtain⟨v',w',hrun,h2⟩:=sT w M v l ha M2 A m c x' hy h0 hb o.type;unfold Oper.wp execOp;simp only[ho,resolve,invoke,builtin,Sem.run_bind,Sem.run_pure,Result.andThen_ok,List.map_toArray,List.map_cons,List.map_nil,hs,hx,hrun];exact h v' w' h2
theorem sq {w:World} {M:Nat→Prop} {v:Value} {l:List UInt8} {g:Nat} {C:Array Value} (ha:fG w M v l) (hg:w.heap[g]? =some (.cells C 139 (0,0))):¬(M g∧v.ownBlock=some g):=by
 rintro⟨mk,e1⟩;rcases ha with⟨h1,_⟩|⟨rfl,_⟩|⟨b,o,rfl,_,hb,hy,_⟩
 ·exact cT h1 hg (by decide) e1
 ·cases e1
 ·simp[Value.ownBlock]at e1;subst e1;exact hy mk
def ur (w:World) (p:Nat) (M:Nat→Prop) (s:J.St) (c:J.Wr) (v:Value) (wx:World):Prop:=
 ∃M',ck wx p M' {s with writes:=s.writes++[c],logged:=s.logged+c.bs.length}∧Step M M' w wx∧wx.heap[w.heap.size]? =some (.cells #[.int .u8 (c.kind:Nat), .int .i64 (c.idx:Nat),v] 139 (0,0))∧¬M' w.heap.size∧∀k,M' k→k<wx.heap.size
theorem KT {w W w1:World} {p:Nat} {M:Nat→Prop} {s:J.St} {kd i n c:Nat} {A:Option Addr} {bs:List UInt8} {bn:Nat} {bw:Option Nat} {ch wr b0 b1 b2 b3 d0 d1 d2 d3 v1:Value} {vs:List Value} {o:Obj}
  (h3:bX w M s bn bw ch wr b0 b1 b2 b3 d0 d1 d2 d3) (hm:M p) (hpl:p<w.heap.size) (hM:∀k,M k→k<w.heap.size) (g1:vs.length=s.writes.length) (g3:∀k,wr.ownBlock=some k→M k) (g4:∀i (h:i<s.writes.length) (h':i<vs.length),Sl w M vs[i] s.writes[i].bs)
  (hv:Sl w M (.slice A n c) bs) (hn:bs.length=n) (hb:Below w.heap.size w W) (hown:(w1).ownsRow 0 139 3 v1 (s.writes.length+1) (eY s.writes vs++[.int .u8 (kd:Nat), .int .i64 (i:Nat), .slice A n c])) (hg:(W.alloc o).grownBy w1 wr.ownBlock) (hl:v1.ownBlock=wr.ownBlock∨v1.ownBlock=some (W.alloc o).heap.size)
  (hr:w1.heap[p]? =some (.cells (bW s bn bw ch wr b0 b1 b2 b3 d0 d1 d2 d3) 99 (0,0))) (hx:w1.heap[w.heap.size]? =some (.cells #[.int .u8 kd, .int .i64 i, .slice A n c] 139 (0,0))) (TC:wr.ownBlock≠some w.heap.size):
  ur w p M s ⟨kd,i,bs⟩ (.slice A n c) ((w1.setCell ⟨p,19,none⟩ v1).setCell ⟨p,20,none⟩ (.int .i64 ((s.logged:Int)+(n:Int)))):=by
 have hbA:Below w.heap.size w (W.alloc o):=hb.alloc hb.size o;have hP:=nN.push (M:=M) (c:=⟨kd,i,bs⟩) g1 g4 g3 hbA hown hg hl hv;have hT:=h3.Tv (n:=s.logged+bs.length) hP.2 (λk=> .inl) (λk hk hne=>(hg.block k (av hk hbA.size) (λe=>hne e.symm)).trans (hbA.block k hk)) hP.1;have hg2:=aA (aA (World.grownBy.refl w1 (some p)) 19 v1) 20 (.int .i64 ((s.logged:Int)+(n:Int)));have hrow:=aB (aB hr 19 v1) 20 (.int .i64 ((s.logged:Int)+(n:Int)));have hcells:((bW s bn bw ch wr b0 b1 b2 b3 d0 d1 d2 d3).setIfInBounds 19 v1).setIfInBounds 20 (.int .i64 ((s.logged:Int)+(n:Int)))=bW {s with writes:=s.writes++[⟨kd,i,bs⟩],logged:=s.logged+bs.length} bn bw ch v1 b0 b1 b2 b3 d0 d1 d2 d3:=by
  rw[←hn,←Int.natCast_add];rfl
 rw[hcells]at hrow;have OB:M p∨v1.ownBlock=some p:= .inl hm;have hlt:w.heap.size<(W.alloc o).heap.size:=by have:=hb.size;simp;omega
 refine⟨λk=>M k∨v1.ownBlock=some k,⟨bn,bw,ch,v1,b0,b1,b2,b3,d0,d1,d2,d3,hrow,OB,hT.own hr OB hg2⟩,hP.2.trans (Step.cC hg2 (λk e _=>by cases e;exact OB)), ?_, ?_, ?_⟩
 ·exact qu (qu hx (by omega)) (by omega)
 ·rintro(e|e)
  ·have:=hM _ e;omega
  ·rcases hl with e'|e'
   ·exact TC (e'▸e)
   ·rw[e']at e;injection e with e;omega
 ·rintro k (e|e)
  ·exact av (hM k e) (aw hP.2.size hg2.size)
  ·exact av (hown.lt k e).2 hg2.size
theorem Sb:(∀(p:Nat) (M:Nat→Prop) (s:J.St) (A:Option Addr) (n c:Nat) (bs:List UInt8) (w:World) (h:ck w p M s) (hM:∀k,M k→k<w.heap.size) (hv:Sl w M (.slice A n c) bs) (mG:s.logged+n≤100000000) (sU:s.writes.length+1≤100000000) (hn:bs.length=n) (h0:0<n) (hsz:s.disk.a0.length+n≤100000000),Calls Tryz.prog 130 #[.pointer (some ⟨p,0,none⟩), .agg #[.int .u8 0, .int .i64 0, .slice A n c]] w λe w'=>(∃r,e= .returned r)∧∃M',ck w' p M' (J.write s ⟨0,0,bs⟩)∧Step M M' w w')∧(∀(p:Nat) (M:Nat→Prop) (s:J.St) (A:Option Addr) (n c:Nat) (bs:List UInt8) (w:World) (h:ck w p M s) (hM:∀k,M k→k<w.heap.size) (hv:Sl w M (.slice A n c) bs) (mG:s.logged+n≤100000000) (sU:s.writes.length+1≤100000000) (hn:bs.length=n) (h0:0<n) (hsz:s.disk.a1.length+n≤100000000),Calls Tryz.prog 130 #[.pointer (some ⟨p,0,none⟩), .agg #[.int .u8 0, .int .i64 1, .slice A n c]] w λe w'=>(∃r,e= .returned r)∧∃M',ck w' p M' (J.write s ⟨0,1,bs⟩)∧Step M M' w w'):=by
 refine⟨?z0, ?z1⟩
 case' z0=>intro p M s A n c bs w h hM hv mG sU hn h0 hsz
 case' z1=>(intro p M s A n c bs w h hM hv mG sU hn h0 hsz;have aH:=trivial)
 all_goals
  obtain⟨bn,bw,ch,wr,b0,b1,b2,b3,d0,d1,d2,d3,h1,h2,h3⟩:=h;have H1:=ae h1;have H2:=ae h2;have H3:=ae h3;have HV:=ae hv;have HM:=ae hM;have hpl:p<w.heap.size:=(ai h1).1;first
   |have aH:=aH
    have hB:Below w.heap.size w (w.alloc (.cells #[.int .u8 0, .int .i64 1, .slice A n c] 139)):=(ak _ _).alloc (aq _) _
    skip
   |have hB:Below w.heap.size w (w.alloc (.cells #[.int .u8 0, .int .i64 0, .slice A n c] 139)):=(ak _ _).alloc (aq _) _
  have hr1:=(hB.block p hpl).trans h1;have hc:=aj _ p hr1;have hf:=aC hr1;first
   |have aH:=aH
    have hb0:=λj=>World.cell?_alloc_new w #[.int .u8 0, .int .i64 1, .slice A n c] 139 j
    skip
   |have hb0:=λj=>World.cell?_alloc_new w #[.int .u8 0, .int .i64 0, .slice A n c] 139 j
  obtain⟨vs,g1,g2,g3,g4⟩:=h3.wrs;have hne:wr.ownBlock≠some p:=cT g2 h1 (by decide);first
   |have aH:=aH
    have cF:((w.alloc (.cells #[.int .u8 0, .int .i64 1, .slice A n c] 139))).heap[w.heap.size]? =some (.cells #[.int .u8 0, .int .i64 1, .slice A n c] 139 (0,0)):=heap_alloc_new w _
    skip
   |have cF:((w.alloc (.cells #[.int .u8 0, .int .i64 0, .slice A n c] 139))).heap[w.heap.size]? =some (.cells #[.int .u8 0, .int .i64 0, .slice A n c] 139 (0,0)):=heap_alloc_new w _
  have rE:=ae (show wr.ownBlock≠some w.heap.size fromλe=>absurd (g2.lt _ e).2 (Nat.lt_irrefl _));have HB:=ae hB;have eb:=ae hr1;have HG:=ae (dW g2 (λk e=>hB.block k (g2.lt k e).2));have uk:=ae g1;have zo:=ae g3;have TD:=ae g4;have HN:=ae hne;have HX:=ae cF;have vF:=ae hn;clear h1 h2 h3 hB hr1 g1 g2 g3 g4 hne hv cF hM hn;go_enter Tryz.func130,Tryz.ntmps130;go_upto_region 1 with fail;first
   |have aH:=aH
    generalize hW:w.alloc (.cells #[.int .u8 0, .int .i64 1, .slice A n c] 139)=W at hc hf hb0 HB eb HG HX⊢
   |generalize hW:w.alloc (.cells #[.int .u8 0, .int .i64 0, .slice A n c] 139)=W at hc hf hb0 HB eb HG HX⊢
  clear hW;first
   |have aH:=aH
    have hnews:∀(W':World),∀j u,([.int .u8 0, .int .i64 1, .slice A n c]:List Value)[j]? =some u→(W'.alloc (.cells #[.int .u8 0, .int .i64 1, .slice A n c] 139)).cell? ((⟨W'.heap.size,0,none⟩:Addr).add j)=some u:=λW' j u hu=>by
     have:=World.cell?_alloc_new W' #[.int .u8 0, .int .i64 1, .slice A n c] 139 j;rw[show(⟨W'.heap.size,0,none⟩:Addr).add j=⟨W'.heap.size,j,none⟩ by simp[Addr.add];intro e;exact e.symm];rw[this];rw[←hu];simp
    have bg:∀u∈([.int .u8 0, .int .i64 1, .slice A n c]:List Value),u.oneCell'=true:=by intro u hu;simp at hu;rcases hu with rfl|rfl|rfl<;>rfl
    skip
   |skip
    have hnews:∀(W':World),∀j u,([.int .u8 0, .int .i64 0, .slice A n c]:List Value)[j]? =some u→(W'.alloc (.cells #[.int .u8 0, .int .i64 0, .slice A n c] 139)).cell? ((⟨W'.heap.size,0,none⟩:Addr).add j)=some u:=λW' j u hu=>by
     have:=World.cell?_alloc_new W' #[.int .u8 0, .int .i64 0, .slice A n c] 139 j;rw[show(⟨W'.heap.size,0,none⟩:Addr).add j=⟨W'.heap.size,j,none⟩ by simp[Addr.add];intro e;exact e.symm];rw[this];rw[←hu];simp
    have bg:∀u∈([.int .u8 0, .int .i64 0, .slice A n c]:List Value),u.oneCell'=true:=by intro u hu;simp at hu;rcases hu with rfl|rfl|rfl<;>rfl
  have Ag:=ae hnews;have dL:=ae bg;have TE:=ae sU;have WG:=ae (show p≠w.heap.size by omega);have aaS:IntKind.i64.wrap ((s.logged:Int)+(n:Int))=(s.logged:Int)+(n:Int):=IntWalk.i64_in _ (by omega);clear hnews bg sU;first
   |have aH:=aH
    let S2:World→Prop:=λw'=>w'.heap[w.heap.size]? =some (.cells #[.int .u8 0, .int .i64 1, .slice A n c] 139 (0,0))
    skip
   |let S2:World→Prop:=λw'=>w'.heap[w.heap.size]? =some (.cells #[.int .u8 0, .int .i64 0, .slice A n c] 139 (0,0))
  let S1:World→Prop:=λw'=>w'.heap[p]? =some (.cells (bW s bn bw ch wr b0 b1 b2 b3 d0 d1 d2 d3) 99 (0,0))∧S2 w';first
   |have aH:=aH
    have hS1:∀w':World,S1 w'→(∀j,w'.cell? ⟨p,j,none⟩=(bW s bn bw ch wr b0 b1 b2 b3 d0 d1 d2 d3)[j]?)∧(∀j,w'.cell? ⟨w.heap.size,j,none⟩=(#[.int .u8 0, .int .i64 1, .slice A n c]:Array Value)[j]?):=λw' h=>⟨aj _ p h.1,aj _ w.heap.size h.2⟩;have Kz:∀w':World,S2 w'→(∀j,w'.cell? ⟨w.heap.size,j,none⟩=(#[.int .u8 0, .int .i64 1, .slice A n c]:Array Value)[j]?):=λw' h=>aj _ w.heap.size h;have Cp:=ae ((((ak W.heap.size W.drew).alloc (aq _) (.cells #[.int .u8 0, .int .i64 1, .slice A n c] 139)).block p (ai eb.out).1).trans eb.out);have fE:=ae ((((ak W.heap.size W.drew).alloc (aq _) (.cells #[.int .u8 0, .int .i64 1, .slice A n c] 139)).block w.heap.size (ai HX.out).1).trans HX.out)
    skip
   |have hS1:∀w':World,S1 w'→(∀j,w'.cell? ⟨p,j,none⟩=(bW s bn bw ch wr b0 b1 b2 b3 d0 d1 d2 d3)[j]?)∧(∀j,w'.cell? ⟨w.heap.size,j,none⟩=(#[.int .u8 0, .int .i64 0, .slice A n c]:Array Value)[j]?):=λw' h=>⟨aj _ p h.1,aj _ w.heap.size h.2⟩
    have Kz:∀w':World,S2 w'→(∀j,w'.cell? ⟨w.heap.size,j,none⟩=(#[.int .u8 0, .int .i64 0, .slice A n c]:Array Value)[j]?):=λw' h=>aj _ w.heap.size h;have Cp:=ae ((((ak W.heap.size W.drew).alloc (aq _) (.cells #[.int .u8 0, .int .i64 0, .slice A n c] 139)).block p (ai eb.out).1).trans eb.out);have fE:=ae ((((ak W.heap.size W.drew).alloc (aq _) (.cells #[.int .u8 0, .int .i64 0, .slice A n c] 139)).block w.heap.size (ai HX.out).1).trans HX.out)
  have su:=ae hS1;have vP:=ae Kz;clear hS1 Kz hc hf hb0;first
   |have aH:=aH
    go_cut []from 4 to 24 (λwx=>ur w p M s ⟨0,1,bs⟩ (.slice A n c) wx)
   |go_cut []from 4 to 24 (λwx=>ur w p M s ⟨0,0,bs⟩ (.slice A n c) wx)
  case first=>
   refine mZ 20 [1,9,10,11,13,14,15,16,17,19] [7,8,19] [(0,false),(2,false),(3,false),(4,false),(5,false),(6,false),(1,false),(9,false),(10,false),(11,false),(12,false),(13,false),(14,false),(15,false),(16,false),(7,true),(8,true),(17,false),(18,false),(19,true)] S1 S2 (by kernel_rfl) (by kernel_rfl) (λc a d v w h=>by cases d<;>exact h) ⟨eb.out,HX.out⟩ HX.out ?_;repeat
    first
     |refine gV (v:= ?_) (by rfl) (by rfl) (by rfl) (λw' hS=> ?_) (λK hK=> ?_)
      rotate_left
      ·obtain⟨Jw,hcb⟩:=su.out w' hS;clear hS;go_simp;try with_reducible rfl
     |refine gW (v:= ?_) (by rfl) (by rfl) (λw' hS=> ?_) (λK hK=> ?_)
      rotate_left
      ·have hcb:=vP.out w' hS;clear hS;go_simp;try with_reducible rfl
    go_simp;refine hK _ ?_;clear hK K
   refine fS (by rfl) (λK hK=> ?_);go_simp;refine hK.out _ _ ⟨Cp.out,fE.out⟩ fE.out ?_;clear hK K;refine fS (by rfl) (λK hK=> ?_);first
    |have aH:=aH
     refine fq (by rfl) _ _ (by rfl) wr s.writes.length (eY s.writes vs) (by rfl) (HG.out.drew.alloc _) ⟨W.drew.heap.size,0,none⟩ 1 1 [.int .u8 0, .int .i64 1, .slice A n c] (by rfl) (by rfl) (Ag.out _) dL.out TE.out ?_
    |refine fq (by rfl) _ _ (by rfl) wr s.writes.length (eY s.writes vs) (by rfl) (HG.out.drew.alloc _) ⟨W.drew.heap.size,0,none⟩ 1 1 [.int .u8 0, .int .i64 0, .slice A n c] (by rfl) (by rfl) (Ag.out _) dL.out TE.out ?_
   intro v1 w1 hown1 hg1 CP;obtain⟨A1,m1,c1,rfl⟩:=dv hown1;have fy:=ae (gi (W:=W.drew) eb.out hg1 HN.out);have nz:=ae (gi (W:=W.drew) HX.out hg1 rE.out);have uo:=ae hown1;have Tr:=ae hg1;have Pg:=ae CP;clear hown1 hg1 CP;go_simp;refine hK.out _ _ ⟨fy.out,nz.out⟩ nz.out ?_;clear hK K;have hc1:=aj _ p fy.out;have GC:=aC fy.out;repeat
    first|refine gV (v:= ?_) (by rfl) (by rfl) (by rfl) (λw' hS=> ?_) (λK hK=> ?_)|refine gW (v:= ?_) (by rfl) (by rfl) (λw' hS=> ?_) (λK hK=> ?_)
    rotate_left
    ·clear hS;go_simp;try with_reducible rfl
    go_simp;refine hK _ ?_;clear hK K
   refine qp (by rfl) (by kernel_rfl) (λK hK=> ?_);go_simp;refine hK.out _ _ (qu nz.out (by exact WG.out)) ?_;clear hK K;show wpList _ _ _ _ _ _;go_wp2_with fail;go_meet;exact KT H3.out H2.out hpl HM.out uk.out zo.out TD.out HV.out vF.out HB.out.drew uo.out Tr.out Pg.out fy.out nz.out rE.out
  case rest=>
   obtain⟨M1,hq,hst,cF,TC,hlt⟩:=hcut;have KR:=HV.out.step hst;obtain⟨bn,bw,ch,wr,b0,b1,b2,b3,d0,d1,d2,d3,q1,q2,q3⟩:=hq;first
    |have aH:=aH
     generalize GL:({s with writes:=s.writes++[⟨0,1,bs⟩],logged:=s.logged+bs.length}:J.St)=S0 at q1 q3
    |generalize GL:({s with writes:=s.writes++[⟨0,0,bs⟩],logged:=s.logged+bs.length}:J.St)=S0 at q1 q3
   have TF:=ae GL;first
    |have aH:=aH
     have xN:=ae (show S0.disk.a1.length+n≤100000000 by rw[←GL];exact hsz)
     skip
    |have xN:=ae (show S0.disk.a0.length+n≤100000000 by rw[←GL];exact hsz)
   have Q1:=ae q1;have Q2:=ae q2;have Q3:=ae q3;have HST:=ae hst;have eH:=ae cF;have HV1:=ae KR;have Jw:=aj wc p q1;have hcb:=aj wc w.heap.size cF;clear GL q1 q2 q3 hst cF KR TC hlt hsz;go_upto_region 3 with fail;obtain⟨A',c',eA,hc',hy⟩:=HV1.out.by
   injection eA with e1 e2 e3;subst e1 e3;have HY:=ae hy;clear hy Jw hcb e2;first
    |have aH:=aH
     refine bK 17 [(0,false),(1,false),(2,false),(3,false),(4,false),(5,false),(6,false),(7,false),(8,false),(9,false),(10,false),(11,false),(12,false),(14,false),(15,false),(16,false),(13,true)] (λw'=>w'.heap[p]? =some (.cells (bW S0 bn bw ch wr b0 b1 b2 b3 d0 d1 d2 d3) 99 (0,0))∧w'.heap[w.heap.size]? =some (.cells #[.int .u8 0, .int .i64 1, .slice A n c] 139 (0,0))) (by kernel_rfl) (by kernel_rfl) (λc a d v w h=>by cases d<;>exact h) ⟨Q1.out,eH.out⟩ ?_
    |refine bK 17 [(0,false),(1,false),(2,false),(3,false),(4,false),(5,false),(6,false),(7,false),(8,false),(9,false),(10,false),(11,false),(12,false),(14,false),(15,false),(16,false),(13,true)] (λw'=>w'.heap[p]? =some (.cells (bW S0 bn bw ch wr b0 b1 b2 b3 d0 d1 d2 d3) 99 (0,0))∧w'.heap[w.heap.size]? =some (.cells #[.int .u8 0, .int .i64 0, .slice A n c] 139 (0,0))) (by kernel_rfl) (by kernel_rfl) (λc a d v w h=>by cases d<;>exact h) ⟨Q1.out,eH.out⟩ ?_
   repeat
    refine eB (v:= ?_) (by rfl) (by rfl) (λw' hS=> ?_) (λK hK=> ?_);rotate_left
    ·have Jw:=aj w' p hS.1;have hcb:=aj w' w.heap.size hS.2;clear hS;go_simp;try with_reducible rfl
    go_simp;refine hK _ ?_;clear hK K
   refine fx (by rfl) (λK hK=> ?_);first
    |have aH:=aH
     refine pj (by rfl) _ _ (by rfl) M1 d3 S0.disk.a1 (by rfl) (show fG wc.drew M1 d3 S0.disk.a1 from Q3.out.e3) M1 A n c bs (by rfl) (by rw[←vF.out];exact HY.out.drew) h0 (by exact xN.out) ?_
    |refine pj (by rfl) _ _ (by rfl) M1 d2 S0.disk.a0 (by rfl) (show fG wc.drew M1 d2 S0.disk.a0 from Q3.out.e2) M1 A n c bs (by rfl) (by rw[←vF.out];exact HY.out.drew) h0 (by exact xN.out) ?_
   intro v1 w1 jP;obtain⟨A1,m1,c1,rfl⟩:=dv jP.own;first
    |have aH:=aH
     have jP:iy wc w1 M1 d3 (.slice A1 m1 c1) (S0.disk.a1++bs):=⟨jP.own,jP.os,jP.tape,jP.output,jP.size,jP.block,jP.row⟩
     skip
    |have jP:iy wc w1 M1 d2 (.slice A1 m1 c1) (S0.disk.a0++bs):=⟨jP.own,jP.os,jP.tape,jP.output,jP.size,jP.block,jP.row⟩
   have fy:=ae ((jP.block p (ai Q1.out).1 (λe=>Q3.out.ne Q1.out Q2.out (by simp[e.2]))).trans Q1.out);first
    |have aH:=aH
     have nz:=ae ((jP.block w.heap.size (ai eH.out).1 (sq Q3.out.e3 eH.out)).trans eH.out)
     skip
    |have nz:=ae ((jP.block w.heap.size (ai eH.out).1 (sq Q3.out.e2 eH.out)).trans eH.out)
   have HAP:=ae jP;clear jP;go_simp;refine hK.out _ _ ⟨fy.out,nz.out⟩ ?_;clear hK K;have hc1:=aj _ p fy.out;have GC:=aC fy.out;show wpList _ _ _ _ _ _;go_wp2_with fail;refine bodyPost_ret (results_none rfl _ _ _) rfl ?_;first
    |have aH:=aH
     have hT:=Q3.out.Ty HAP.out;have hg2:=aA (World.grownBy.refl w1 (some p)) 18 (.slice A1 m1 c1);have hrow:=aB fy.out 18 (.slice A1 m1 c1)
     skip
    |have hT:=Q3.out.Tw HAP.out
     have hg2:=aA (World.grownBy.refl w1 (some p)) 17 (.slice A1 m1 c1);have hrow:=aB fy.out 17 (.slice A1 m1 c1)
   have OB:M1 p∨(Value.slice A1 m1 c1).ownBlock=some p:= .inl Q2.out;first
    |have aH:=aH
     have hw:J.write s ⟨0,1,bs⟩={S0 with disk:={S0.disk with a1:=S0.disk.a1++bs}}:=by rw[←TF.out];simp[J.write,J.done,J.eF.bN,J.eF.area]
     skip
    |have hw:J.write s ⟨0,0,bs⟩={S0 with disk:={S0.disk with a0:=S0.disk.a0++bs}}:=by rw[←TF.out];simp[J.write,J.done,J.eF.bN,J.eF.area]
   rw[hw];first
    |have aH:=aH
     exact⟨⟨_,rfl⟩,_,⟨bn,bw,ch,wr,b0,b1,b2,b3,d0,d1,d2,_,hrow,OB,hT.1.own fy.out OB hg2⟩,HST.out.trans (hT.2.trans (Step.cC hg2 (λk e _=>by cases e;exact OB)))⟩
     skip
    |exact⟨⟨_,rfl⟩,_,⟨bn,bw,ch,wr,b0,b1,b2,b3,d0,d1,_,d3,hrow,OB,hT.1.own fy.out OB hg2⟩,HST.out.trans (hT.2.trans (Step.cC hg2 (λk e _=>by cases e;exact OB)))⟩
abbrev Ak:= @Sb.1
abbrev Al:= @Sb.2
end Go.Proofs.YtipljcmmokaokaaGreat
