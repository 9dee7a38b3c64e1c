import Derived.Test.YtipljcmmokaokaaGreatQM03
import Derived.BigRegion
set_option linter.unusedVariables false
set_option linter.unusedSimpArgs false
set_option maxHeartbeats 4000000
namespace Go.Proofs.YtipljcmmokaokaaGreat
open Go.RowKit Go.Lib Go.Maps Go.WideMaps
set_option maxRecDepth 100000
theorem cZ {W w1:World} {p:Nat} {t:TypeId} {C:Array Value} {o:Obj} {r:Option Nat} (h:W.heap[p]? =some (.cells C t (0,0))) (hg:(W.alloc o).grownBy w1 r) (hne:r≠some p):w1.heap[p]? =some (.cells C t (0,0)):=by
 have hp:p<W.heap.size:=(ah h).1;exact(hg.block p (by simp;omega) (fun e=>hne e.symm)).trans (((ai W.heap.size W).alloc (aj _) o).block p hp|>.trans h)
theorem cF {w:World} {base n size:Nat} {e:TypeId} {v:Value} {xs:List Value} (h:w.ownsRow base e size v n xs):∃A m c,v= .slice A m c:=by
 rcases h.2 with⟨rfl,_⟩|⟨g',cap,cur,rfl,_⟩
 ·exact⟨_,_,_,rfl⟩
 ·exact⟨_,_,_,rfl⟩
theorem J6 (p:Nat) (M:Nat→Prop) (s:J.St) (key:ByteArray) (A:Option Addr) (n c:Nat) (val:List UInt8) (w:World) (h:bt w p M s) (hk:key.size≤1000) (hn:n≤10000)
  (hv:cE w M (.slice A n c) val) (uZ:3+key.size+(4+n)≤4194304 - s.size) (ho:s.opn=true):
  Calls Tryz.prog 102 #[.pointer (some ⟨p,0,none⟩), .agg #[.string key, .slice A n c, .bool false]] w fun e w'=>e= .returned (.int .i64 0)∧∃M',bt w' p M' (J.add s ⟨key.data.toList,val,false⟩).1∧Step M M' w w':=by
 obtain⟨bn,bw,ch,wr,b0,b1,b2,b3,d0,d1,d2,d3,h1,h2,h3,h4⟩:=h;have H1:=aa h1;have H2:=aa h2;have H3:=aa h3;have H4:=aa h4;have HV:=aa hv;have HO:=aa ho;have hpl:p<w.heap.size:=(ah h1).1;have hsz:=h4.size;have Tr:=h4.chs;have hB:Below w.heap.size w (w.alloc (.cells #[.string key, .slice A n c, .bool false] 163)):=(ai _ _).alloc (aj _) _;have hr1:=(hB.block p hpl).trans h1;have hc:=fun j=>ag _ p j _ _ _ hr1;have hf:=az hr1;have hb0:=fun j=>World.cell?_alloc_new w #[.string key, .slice A n c, .bool false] 163 j;obtain⟨vs,g1,g2,g3⟩:=h3.chs;have hne:ch.ownBlock≠some p:=bX g2 h1 (by decide);have dr:((w.alloc (.cells #[.string key, .slice A n c, .bool false] 163))).heap[w.heap.size]? =some (.cells #[.string key, .slice A n c, .bool false] 163 (0,0)):=heap_alloc_new w _;have kO:=aa (show ch.ownBlock≠some w.heap.size from fun e=>absurd (g2.lt _ e).2 (Nat.lt_irrefl _));have HB:=aa hB;have eX:=aa hr1;have HG:=aa (cY g2 (fun k e=>hB.block k (g2.lt k e).2));have sq:=aa g1;have vO:=aa g3;have HN:=aa hne;have HX:=aa dr;have wV:=aa hsz;clear h1 h2 h3 h4 hB hr1 g1 g2 g3 hne hv ho dr;have cA:(⟨key.data.toList,val,false⟩:J.cn).len=3+key.size+(4+n):=by
  have h1:key.data.toList.length=key.size:=rfl;have h2:val.length=n:=by
   rcases HV.out with⟨e,rfl⟩|⟨b,o,e,_⟩
   ·injection e with _ e;exact e.symm
   ·injection e with _ e;exact e.symm
  simp[J.cn.len,h1,h2]
 have tR:(J.add s ⟨key.data.toList,val,false⟩).1={s with changes:=s.changes++[⟨key.data.toList,val,false⟩],size:=s.size+(3+key.size+(4+n)),now:=J.ins s.now key.data.toList val}:=by
  unfold J.add;rw[if_neg (by rw[cA];omega),cA];rfl
 have lG:=Gl (c:=⟨key.data.toList,val,false⟩) H4.out HO.out (by rw[cA];omega) (fun e=>by cases e);rw[cA]at lG;have hlen:s.now.length≤100000000:=by
  have a:=J.tq s.now;have b:=H4.out.now;have c:=H4.out.logged;have d:=H4.out.encs HO.out;have e:=H4.out.size;omega
 have Nf:=aa tR;have JL:=aa lG;have HLEN:=aa hlen;clear cA tR lG hlen;have hb:¬((4194304:Int) - (s.size:Int)<3+(key.size:Int)+(4+(n:Int))):=by omega
 go_enter Tryz.func102,Tryz.ntmps102;go_upto_region 1 with fail;generalize hW:w.alloc (.cells #[.string key, .slice A n c, .bool false] 163)=W at hc hf hb0 HB eX HG HX⊢;clear hW;go_upto_region 7 with fail;have kz:(s.changes.length:Nat)+1≤100000000:=by have:=wV.out;omega
 have p6:=aa kz;have hnews:∀(W':World),∀j u,([.string key, .slice A n c, .bool false]:List Value)[j]? =some u→(W'.alloc (.cells #[.string key, .slice A n c, .bool false] 163)).cell? ((⟨W'.heap.size,0,none⟩:Addr).add j)=some u:=fun W' j u hu=>by
  have:=World.cell?_alloc_new W' #[.string key, .slice A n c, .bool false] 163 j;rw[show(⟨W'.heap.size,0,none⟩:Addr).add j=⟨W'.heap.size,j,none⟩ by simp[Addr.add];intro e;exact e.symm];rw[this];rw[←hu];simp
 have aN:∀u∈([.string key, .slice A n c, .bool false]:List Value),u.oneCell'=true:=by intro u hu;simp at hu;rcases hu with rfl|rfl|rfl<;>rfl
 have vd:=aa hnews;have cP:=aa aN;have hwr:IntKind.i64.wrap ((s.size:Int)+(3+(key.size:Int)+(4+(n:Int))))=(s.size:Int)+(3+(key.size:Int)+(4+(n:Int))):=IntWalk.i64_in _ (by omega);clear kz hnews aN;have X3:=fun j=>ag _ p j _ _ _ ((((ai W.heap.size W).alloc (aj _) (.cells #[.string key, .slice A n c, .bool false] 163)).block p (ah eX.out).1).trans eX.out);go_region_law (refine rM (by rfl) _ _ (by rfl) ch s.changes.length (cV s.changes vs) (by rfl) (HG.out.drew.alloc _) ⟨W.drew.heap.size,0,none⟩ 1 1 [.string key, .slice A n c, .bool false] (by rfl) (by rfl) (vd.out _) cP.out p6.out ?_;intro v1 w1 hown1 hg1 pO;obtain⟨A1,m1,c1,rfl⟩:=cF hown1;have hr1:=cZ (W:=W.drew) eX.out hg1 HN.out;have hc1:=fun j=>ag _ p j _ _ _ hr1;have uY:=az hr1;have dc:=aa hr1;have lr:=aa hown1;have Bc:=aa hg1;have Be:=aa pO;have PB:=cZ (W:=W.drew) HX.out hg1 kO.out;have b6:=fun j=>ag _ w.heap.size j _ _ _ PB;clear hr1 hown1 hg1 pO PB)
 all_goals
  go_wp2_with fail;have hA:=CU (cg:=⟨key.data.toList,val,false⟩) (n:=s.size+(3+key.size+(4+n))) H3.out rfl (HB.out.drew.alloc HB.out.drew.size _) sq.out vO.out HV.out lr.out Bc.out Be.out;have Ng:=add_mid hA.1 dc.out (Or.inl H2.out) (.slice A1 m1 c1) (.int .i64 ((s.size:Int)+(3+(key.size:Int)+(4+(n:Int)))));have Nh:=Ng.2.1;rw[vJ s bn bw ch _ wr b0 b1 b2 b3 d0 d1 d2 d3 (s.changes++[⟨key.data.toList,val,false⟩]) (s.size+(3+key.size+(4+n))) _ (by push_cast;rfl)]at Nh;have HA:=aa hA;have DR:=aa Ng;have PC:=aa Nh;clear hA Ng Nh;refine(DN p bn _ s.now _ key A n c val _ PC.out rfl DR.out.1.now DR.out.1.mbn (by unfold maxLen;omega) ((HV.out.step HA.out.2).step DR.out.2.2) HLEN.out).mono ?_;rintro e w3 ⟨rfl,sS,hg3⟩;have nK:=CV DR.out.1 PC.out (Or.inl H2.out) hg3 sS JL.out;have HF:=aa nK;clear sS hg3 nK;go_wp2_with fail;go_ret;exact⟨rfl,_,Nf.out▸HF.out.1,(HA.out.2.trans DR.out.2.2).trans HF.out.2⟩
end Go.Proofs.YtipljcmmokaokaaGreat
