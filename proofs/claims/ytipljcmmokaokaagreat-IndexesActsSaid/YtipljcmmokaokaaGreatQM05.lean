import Derived.Test.YtipljcmmokaokaaGreatQM03
import Derived.BigRegion
set_option linter.unusedVariables false
set_option linter.unusedSimpArgs false
set_option maxHeartbeats 4000000
namespace Go.Proofs.YtipljcmmokaokaaGreat
open Go.RowKit Go.Lib Go.Maps Go.WideMaps
set_option maxRecDepth 100000
theorem gi {W w1:World} {p:Nat} {t:TypeId} {C:Array Value} {o:Obj} {r:Option Nat} (h:W.heap[p]? =some (.cells C t (0,0))) (hg:(W.alloc o).grownBy w1 r) (hne:r≠some p):w1.heap[p]? =some (.cells C t (0,0)):=by
 have hp:p<W.heap.size:=(ai h).1;exact(hg.block p (by simp;omega) (λe=>hne e.symm)).trans (((ak W.heap.size W).alloc (aq _) o).block p hp|>.trans h)
theorem dv {w:World} {base n size:Nat} {e:TypeId} {v:Value} {xs:List Value} (h:w.ownsRow base e size v n xs):∃A m c,v= .slice A m c:=by
 rcases h.2 with⟨rfl,_⟩|⟨g',cap,cur,rfl,_⟩
 ·exact⟨_,_,_,rfl⟩
 ·exact⟨_,_,_,rfl⟩
theorem Pf (p:Nat) (M:Nat→Prop) (s:J.St) (key:ByteArray) (A:Option Addr) (n c:Nat) (val:List UInt8) (w:World) (h:bA w p M s) (hk:key.size≤1000) (hn:n≤10000)
  (hv:bT w M (.slice A n c) val) (GF:3+key.size+(4+n)≤4194304 - s.size) (ho:s.opn=true):
  Calls Tryz.prog 102 #[.pointer (some ⟨p,0,none⟩), .agg #[.string key, .slice A n c, .bool false]] w λe w'=>e= .returned (.int .i64 0)∧∃M',bA w' p M' (J.add s ⟨key.data.toList,val,false⟩).1∧Step M M' w w':=by
 obtain⟨bn,bw,ch,wr,b0,b1,b2,b3,d0,d1,d2,d3,h1,h2,h3,h4⟩:=h;have H1:=ae h1;have H2:=ae h2;have H3:=ae h3;have H4:=ae h4;have HV:=ae hv;have HO:=ae ho;have hpl:p<w.heap.size:=(ai h1).1;have hsz:=h4.size;have aaO:=h4.chs;have hB:Below w.heap.size w (w.alloc (.cells #[.string key, .slice A n c, .bool false] 163)):=(ak _ _).alloc (aq _) _;have hr1:=(hB.block p hpl).trans h1;have hc:=aj _ p hr1;have hf:=aC hr1;have hb0:=λj=>World.cell?_alloc_new w #[.string key, .slice A n c, .bool false] 163 j;obtain⟨vs,g1,g2,g3⟩:=h3.chs;have hne:ch.ownBlock≠some p:=cT g2 h1 (by decide);have cF:((w.alloc (.cells #[.string key, .slice A n c, .bool false] 163))).heap[w.heap.size]? =some (.cells #[.string key, .slice A n c, .bool false] 163 (0,0)):=heap_alloc_new w _;have rE:=ae (show ch.ownBlock≠some w.heap.size fromλe=>absurd (g2.lt _ e).2 (Nat.lt_irrefl _));have HB:=ae hB;have eb:=ae hr1;have HG:=ae (dW g2 (λk e=>hB.block k (g2.lt k e).2));have uk:=ae g1;have zo:=ae g3;have HN:=ae hne;have HX:=ae cF;have xN:=ae hsz;clear h1 h2 h3 h4 hB hr1 g1 g2 g3 hne hv ho cF;have cq:(⟨key.data.toList,val,false⟩:J.bZ).len=3+key.size+(4+n):=by
  have h1:key.data.toList.length=key.size:=rfl;have h2:val.length=n:=by
   rcases HV.out with⟨e,rfl⟩|⟨b,o,e,_⟩
   ·injection e with _ e;exact e.symm
   ·injection e with _ e;exact e.symm
  simp[J.bZ.len,h1,h2]
 have um:(J.add s ⟨key.data.toList,val,false⟩).1={s with changes:=s.changes++[⟨key.data.toList,val,false⟩],size:=s.size+(3+key.size+(4+n)),now:=J.ins s.now key.data.toList val}:=by
  unfold J.add;rw[if_neg (by rw[cq];omega),cq];rfl
 have jN:=Ku (c:=⟨key.data.toList,val,false⟩) H4.out HO.out (by rw[cq];omega) (λe=>by cases e);rw[cq]at jN;have hlen:s.now.length≤100000000:=by
  have a:=J.tS s.now;have b:=H4.out.now;have c:=H4.out.logged;have d:=H4.out.encs HO.out;have e:=H4.out.size;omega
 have Tq:=ae um;have OA:=ae jN;have HLEN:=ae hlen;clear cq um jN hlen;have hb:¬((4194304:Int) - (s.size:Int)<3+(key.size:Int)+(4+(n:Int))):=by omega
 go_enter Tryz.func102,Tryz.ntmps102;go_upto_region 1 with fail;generalize hW:w.alloc (.cells #[.string key, .slice A n c, .bool false] 163)=W at hc hf hb0 HB eb HG HX⊢;clear hW;go_upto_region 7 with fail;have eG:(s.changes.length:Nat)+1≤100000000:=by have:=xN.out;omega
 have ny:=ae eG;have hnews:∀(W':World),∀j u,([.string key, .slice A n c, .bool false]:List Value)[j]? =some u→(W'.alloc (.cells #[.string key, .slice A n c, .bool false] 163)).cell? ((⟨W'.heap.size,0,none⟩:Addr).add j)=some u:=λW' j u hu=>by
  have:=World.cell?_alloc_new W' #[.string key, .slice A n c, .bool false] 163 j;rw[show(⟨W'.heap.size,0,none⟩:Addr).add j=⟨W'.heap.size,j,none⟩ by simp[Addr.add];intro e;exact e.symm];rw[this];rw[←hu];simp
 have bg:∀u∈([.string key, .slice A n c, .bool false]:List Value),u.oneCell'=true:=by intro u hu;simp at hu;rcases hu with rfl|rfl|rfl<;>rfl
 have Ag:=ae hnews;have dL:=ae bg;have hwr:IntKind.i64.wrap ((s.size:Int)+(3+(key.size:Int)+(4+(n:Int))))=(s.size:Int)+(3+(key.size:Int)+(4+(n:Int))):=IntWalk.i64_in _ (by omega);clear eG hnews bg;have hcA:=aj _ p ((((ak W.heap.size W).alloc (aq _) (.cells #[.string key, .slice A n c, .bool false] 163)).block p (ai eb.out).1).trans eb.out);go_region_law (refine sj (by rfl) _ _ (by rfl) ch s.changes.length (cS s.changes vs) (by rfl) (HG.out.drew.alloc _) ⟨W.drew.heap.size,0,none⟩ 1 1 [.string key, .slice A n c, .bool false] (by rfl) (by rfl) (Ag.out _) dL.out ny.out ?_;intro v1 w1 hown1 hg1 CP;obtain⟨A1,m1,c1,rfl⟩:=dv hown1;have hr1:=gi (W:=W.drew) eb.out hg1 HN.out;have hc1:=aj _ p hr1;have GC:=aC hr1;have fy:=ae hr1;have uo:=ae hown1;have Tr:=ae hg1;have Pg:=ae CP;have WA:=gi (W:=W.drew) HX.out hg1 rE.out;have dM:=aj _ w.heap.size WA;clear hr1 hown1 hg1 CP WA)
 all_goals
  go_wp2_with fail;have hA:=Fi (cg:=⟨key.data.toList,val,false⟩) (n:=s.size+(3+key.size+(4+n))) H3.out rfl (HB.out.drew.alloc HB.out.drew.size _) uk.out zo.out HV.out uo.out Tr.out Pg.out;have Ts:=add_mid hA.1 fy.out (Or.inl H2.out) (.slice A1 m1 c1) (.int .i64 ((s.size:Int)+(3+(key.size:Int)+(4+(n:Int)))));have Tt:=Ts.2.1;rw[wB s bn bw ch _ wr b0 b1 b2 b3 d0 d1 d2 d3 (s.changes++[⟨key.data.toList,val,false⟩]) (s.size+(3+key.size+(4+n))) _ (by push_cast;rfl)]at Tt;have HA:=ae hA;have GI:=ae Ts;have WB:=ae Tt;clear hA Ts Tt;refine(GD p bn _ s.now _ key A n c val _ WB.out rfl GI.out.1.now GI.out.1.mbn (by unfold maxLen;omega) ((HV.out.step HA.out.2).step GI.out.2.2) HLEN.out).mono ?_;rintro e w3 ⟨rfl,Fk,hg3⟩;have nu:=Fj GI.out.1 WB.out (Or.inl H2.out) hg3 Fk OA.out;have HF:=ae nu;clear Fk hg3 nu;go_wp2_with fail;go_ret;exact⟨rfl,_,Tq.out▸HF.out.1,(HA.out.2.trans GI.out.2.2).trans HF.out.2⟩
end Go.Proofs.YtipljcmmokaokaaGreat
