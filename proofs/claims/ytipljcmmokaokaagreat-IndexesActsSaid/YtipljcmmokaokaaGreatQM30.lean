import Derived.Test.YtipljcmmokaokaaGreatQM21
import Derived.Test.YtipljcmmokaokaaGreatQM23
set_option linter.unusedVariables false
set_option linter.unusedSimpArgs false
set_option maxHeartbeats 2000000
namespace Go.Proofs.YtipljcmmokaokaaGreat
open Go.RowKit Go.Lib Go.Maps Go.WideMaps Go.Sort
set_option maxRecDepth 100000
section
variable {w w' : World} {q g c : Nat} {M : Nat → Prop} {m m' : X.M} {v v' : Value} {l l' : List HP}
theorem Iz (h:ft w q g c M m v l) (md:Nat) (od:Bool) (h0:m.mode=0) (pJ:1≤md∧md≤4) (h2:md≠2) (ht:m.there=true) (hex:md=4→m.rows=[]):
  Calls Tryz.prog 13 #[.pointer (some ⟨q,0,none⟩), .int .u8 (md:Nat), .bool od] w λe w'=>e= .returned (.string ⟨#[48,48]⟩)∧HR w q g c M (m.opened md od) v l w':=by
 obtain⟨A,cv,rfl,hcv,_⟩:=h.rows.cP;have sB:=h.len;have hc:=aj w q h.row;rw[ht]at hc;have hz:=aC h.row;have uk:=ae (aA (aA (World.grownBy.refl w (some q)) 6 (.int .u8 (md:Nat))) 7 (.bool od));have eb:Hid ((((w.setCell ⟨q,6,none⟩ (.int .u8 (md:Nat))).setCell ⟨q,7,none⟩ (.bool od))).heap[q]? =some (gF {m with mode:=md,ord:=od} g c (.slice A l.length cv))):=ae (aB (aB h.row 6 (.int .u8 (md:Nat))) 7 (.bool od));have HH:=ae h;have HE:Hid (m.opened md od={m with mode:=md,ord:=od,key:=0,lost:=false,value:=[],at_:=0,same:=true,read:=false,written:=[]}):=ae (by
  unfold X.M.opened;rw[if_neg h2,if_neg h2,←ht];by_cases e4:md=4
  ·rw[if_pos e4,hex e4];rfl
  ·rw[if_neg e4])
 have k3:¬(0:Int)<(m.mode:Nat):=by omega
 have k1:¬(md:Int)<1:=by omega
 have k2:¬(4:Int)<(md:Nat):=by omega
 have k4:¬((md:Int)=2):=by omega
 have n4:¬md=2:=h2;have n1:¬md<1:=by omega
 have n2:¬4<md:=by omega
 have k9:((md:Int)==2)=false:=by rw[beq_eq_false_iff_ne];omega
 have k10:((md:Int) !=2)=true:=by rw[bne_iff_ne];omega
 have hk6:(md:Int)=4∧l.length=0∨¬(md:Int)=4:=by
  by_cases e:md=4
  ·exact .inl ⟨by omega,by rw[sB,hex e];rfl⟩
  ·exact .inr (by omega)
 clear h hex sB ht;go_enter Tryz.func13,Tryz.ntmps13;go_upto_region 13 with fail;refine aM (λY=>w.grownBy Y (some q)∧Y.heap[q]? =some (gF {m with mode:=md,ord:=od} g c (.slice A l.length cv))) ⟨uk.out,eb.out⟩ ?_;rintro W1 ⟨hg1,hr1⟩;have hc:=aj W1 q hr1;have hz:=aC hr1;have Oy:=ae (aA (aA (aA (aA hg1 8 (.int .i64 0)) 9 (.bool false)) 10 (.string ⟨#[]⟩)) 11 (.int .i64 0));have fy:Hid ((((((W1.setCell ⟨q,8,none⟩ (.int .i64 0)).setCell ⟨q,9,none⟩ (.bool false)).setCell ⟨q,10,none⟩ (.string ⟨#[]⟩)).setCell ⟨q,11,none⟩ (.int .i64 0))).heap[q]? =some (gF {m with mode:=md,ord:=od,key:=0,lost:=false,value:=[],at_:=0} g c (.slice A l.length cv))):=ae (aB (aB (aB (aB hr1 8 (.int .i64 0)) 9 (.bool false)) 10 (.string ⟨#[]⟩)) 11 (.int .i64 0));clear hg1 hr1 uk eb k3 k1 k2;go_upto_region 17 with fail;refine aM (λY=>w.grownBy Y (some q)∧Y.heap[q]? =some (gF {m with mode:=md,ord:=od,key:=0,lost:=false,value:=[],at_:=0} g c (.slice A l.length cv))) ⟨Oy.out,fy.out⟩ ?_;rintro W2 ⟨hg2,hr2⟩;have hc:=aj W2 q hr2;have hz:=aC hr2;have zo:=ae (aA (aA (aA hg2 12 (.bool true)) 14 (.bool false)) 15 (.string ⟨#[]⟩));have FI:Hid (((((W2.setCell ⟨q,12,none⟩ (.bool true)).setCell ⟨q,14,none⟩ (.bool false)).setCell ⟨q,15,none⟩ (.string ⟨#[]⟩))).heap[q]? =some (gF {m with mode:=md,ord:=od,key:=0,lost:=false,value:=[],at_:=0,same:=true,read:=false,written:=[]} g c (.slice A l.length cv))):=ae (aB (aB (aB hr2 12 (.bool true)) 14 (.bool false)) 15 (.string ⟨#[]⟩));clear hg2 hr2 Oy fy;go_upto_region 20 with fail;refine aM (λY=>w.grownBy Y (some q)∧Y.heap[q]? =some (gF {m with mode:=md,ord:=od,key:=0,lost:=false,value:=[],at_:=0,same:=true,read:=false,written:=[]} g c (.slice A l.length cv))) ⟨zo.out,FI.out⟩ ?_;rintro W3 ⟨hg3,hr3⟩;have hc:=aj W3 q hr3;have HF:Hid (HR w q g c M (m.opened md od) (.slice A l.length cv) l W3):=ae (by
  rw[HE.out];exact⟨hg3,HH.out.turn hg3 hr3 rfl rfl⟩)
 clear hg3 hr3 zo FI HH HE;rcases hk6 with⟨e4,e0⟩|e4
 ·rw[e0]at hc;go_wp2;go_ret;exact⟨rfl,e0▸HF.out⟩
 ·go_wp2;go_ret;exact⟨rfl,HF.out⟩
theorem IA {ks:List X.Ky} {l:List HP} {rows:List X.Row} (h:l.map (·.1)=rows) {j:Nat} (hj:j+1=(dg ks 0 l).length):X.nJ ks rows=X.val ks 0 ((dg ks 0 l)[j]'(by omega)).1.b:=by
 unfold X.nJ;rw[←h,←uN,List.getLast?_map,List.getLast?_eq_getElem?,show(dg ks 0 l).length - 1=j by omega,List.getElem?_eq_getElem (by omega)];rfl
theorem MO (n:Nat) (h:1≤n) (hn:n≤1000000):wrap64 ((n:Int) - 1)=((n - 1:Nat):Int)∧IntKind.i64.wrap ((n:Int) - 1)=((n - 1:Nat):Int):=by
 have e:wrap64 ((n:Int) - 1)=((n - 1:Nat):Int):=by rw[IntWalk.wrap64_in _ (by omega)];omega
 exact⟨e,by rw[IntKind.wrap_i64];omega⟩
theorem IB (h:ft w q g c M m v l) (hM:∀k,M k→k<w.heap.size) (hf:cj m l) (od:Bool) (h0:m.mode=0) (ht:m.there=true) (hne:m.rows≠[]):
  Calls Tryz.prog 13 #[.pointer (some ⟨q,0,none⟩), .int .u8 4, .bool od] w λe w'=>e= .returned (.string ⟨#[48,48]⟩)∧HR w q g c M (m.opened 4 od) v l w':=by
 obtain⟨A,cv,rfl,hcv,_⟩:=h.rows.cP;have sB:0<l.length:=by rw[h.len];exact List.length_pos_iff.2 hne
 have PD:=ae sB;have hc:=aj w q h.row;rw[ht]at hc;have hz:=aC h.row;have uk:=ae (aA (aA (World.grownBy.refl w (some q)) 6 (.int .u8 4)) 7 (.bool od));have eb:Hid ((((w.setCell ⟨q,6,none⟩ (.int .u8 4)).setCell ⟨q,7,none⟩ (.bool od))).heap[q]? =some (gF {m with mode:=4,ord:=od} g c (.slice A l.length cv))):=ae (aB (aB h.row 6 (.int .u8 4)) 7 (.bool od));have HH:=ae h;have HF:=ae hf;have HM:=ae hM;have HT:=ae ht;have k3:¬(0:Int)<(m.mode:Nat):=by omega
 have hl0:(0:Int)<(l.length:Nat):=by omega
 clear h hne ht hf hM;go_enter Tryz.func13,Tryz.ntmps13;go_upto_region 13 with fail;refine aM (λY=>w.grownBy Y (some q)∧Y.heap[q]? =some (gF {m with mode:=4,ord:=od} g c (.slice A l.length cv))) ⟨uk.out,eb.out⟩ ?_;rintro W1 ⟨hg1,hr1⟩;have hc:=aj W1 q hr1;have hz:=aC hr1;have Oy:=ae (aA (aA (aA (aA hg1 8 (.int .i64 0)) 9 (.bool false)) 10 (.string ⟨#[]⟩)) 11 (.int .i64 0));have fy:Hid ((((((W1.setCell ⟨q,8,none⟩ (.int .i64 0)).setCell ⟨q,9,none⟩ (.bool false)).setCell ⟨q,10,none⟩ (.string ⟨#[]⟩)).setCell ⟨q,11,none⟩ (.int .i64 0))).heap[q]? =some (gF {m with mode:=4,ord:=od,key:=0,lost:=false,value:=[],at_:=0} g c (.slice A l.length cv))):=ae (aB (aB (aB (aB hr1 8 (.int .i64 0)) 9 (.bool false)) 10 (.string ⟨#[]⟩)) 11 (.int .i64 0));clear hg1 hr1 uk eb k3;go_upto_region 17 with fail;refine aM (λY=>w.grownBy Y (some q)∧Y.heap[q]? =some (gF {m with mode:=4,ord:=od,key:=0,lost:=false,value:=[],at_:=0} g c (.slice A l.length cv))) ⟨Oy.out,fy.out⟩ ?_;rintro W2 ⟨hg2,hr2⟩;have hc:=aj W2 q hr2;have hz:=aC hr2;have zo:=ae (aA (aA (aA hg2 12 (.bool true)) 14 (.bool false)) 15 (.string ⟨#[]⟩));have FI:Hid (((((W2.setCell ⟨q,12,none⟩ (.bool true)).setCell ⟨q,14,none⟩ (.bool false)).setCell ⟨q,15,none⟩ (.string ⟨#[]⟩))).heap[q]? =some (gF {m with mode:=4,ord:=od,key:=0,lost:=false,value:=[],at_:=0,same:=true,read:=false,written:=[]} g c (.slice A l.length cv))):=ae (aB (aB (aB hr2 12 (.bool true)) 14 (.bool false)) 15 (.string ⟨#[]⟩));clear hg2 hr2 Oy fy;go_upto_region 20 with fail;refine aM (λY=>w.grownBy Y (some q)∧Y.heap[q]? =some (gF {m with mode:=4,ord:=od,key:=0,lost:=false,value:=[],at_:=0,same:=true,read:=false,written:=[]} g c (.slice A l.length cv))) ⟨zo.out,FI.out⟩ ?_;rintro W3 ⟨hg3,hr3⟩;have hc:=aj W3 q hr3;have DL:=HH.out.turn hg3 hr3 rfl rfl;have HG:=ae hg3;have sN:=ae (gA DL (λk hk=>av (HM.out k hk) hg3.size) ⟨HF.out.fit,HF.out.ts,HF.out.ks,HF.out.len⟩ 0 HF.out.ks.one.1);have HD:=ae DL;clear hg3 hr3 zo FI DL;go_wp2_with fail;refine sN.out.mono ?_;rintro e W4 ⟨v4,rfl,hb4,hw4⟩;have Qx:=ae (HD.out.below hb4);have eR:=ae hb4;obtain⟨ls,HNL,HW4,Yp,DR⟩:∃ls:List HP,Hid (ls.length=l.length)∧Hid (mP W4 M v4 ls)∧Hid (∀x∈ls,x∈l)∧Hid (∀j (hj:j+1=ls.length),X.nJ m.ks m.rows=X.val m.ks 0 (ls[j]'(by omega)).1.b):=
  ⟨dg m.ks 0 l,ae (lW (ks:=m.ks) 0 l),ae hw4,ae (λx hx=>qM l hx),ae (λj hj=>IA HH.out.eq hj)⟩
 clear hb4 hw4 sN HD hc;have Qd:l.length - 1<ls.length:=by rw[HNL.out];omega
 obtain⟨g0,c0,rfl,cq,_⟩:=HW4.out.cells Qd;have zq:=Yp.out _ (List.getElem_mem Qd);have og:=DR.out (l.length - 1) (by rw[HNL.out];omega);generalize(ls[l.length - 1]'Qd)=xl at cq zq og;obtain⟨hs1,hs2⟩:=MO l.length (by omega) HF.out.len;have aZ:=(X.aR.1 (HF.out.fit xl zq));have kz:=ae (hpart_any Qx.out.row Qx.out.ks 0 HF.out.ks.one.1 xl.1.b (aZ.2 _ (X.aU HF.out.ks.one.1)) (by have:=HF.out.ks.size;omega));have SM:((l.length - 1:Nat):Int)<(l.length:Nat):=by omega
 have gR:=aj W4 q Qx.out.row;have xQ:Hid (∀W5,Below W4.heap.size W4 W5→W5.heap[q]? =some (gF {m with mode:=4,ord:=od,key:=0,lost:=false,value:=[],at_:=0,same:=true,read:=false,written:=[]} g c (.slice A l.length cv))):=ae (λW5 hb=>(Qx.out.below hb).row);have td:Hid (∀W5,Below W4.heap.size W4 W5→HR w q g c M (m.opened 4 od) (.slice A l.length cv) l (W5.setCell ⟨q,15,none⟩ (.string ⟨(X.val m.ks 0 xl.1.b).toArray⟩))):=ae (λW5 hb=>by
  have hd:=Qx.out.below hb;have hg:w.grownBy W5 (some q):=kj (kj HG.out ⟨eR.out.os,eR.out.tape,eR.out.output,eR.out.size,λk hk _=>eR.out.block k hk⟩) ⟨hb.os,hb.tape,hb.output,hb.size,λk hk _=>hb.block k hk⟩;have hr:(W5.setCell ⟨q,15,none⟩ (.string ⟨(X.val m.ks 0 xl.1.b).toArray⟩)).heap[q]? =some (gF (m.opened 4 od) g c (.slice A l.length cv)):=by
   have h1:=aB hd.row 15 (.string ⟨(X.val m.ks 0 xl.1.b).toArray⟩);rw[←og]at h1⊢;rw[h1];unfold X.M.opened;rw[←HT.out];rfl
  exact HR.set ⟨hg,hd⟩ 15 _ hr rfl rfl)
 generalize X.val m.ks 0 xl.1.b=pv at kz td;clear og zq aZ DR Yp HW4 HG eR Qx HH HM HF HT;rw[HNL.out];go_wp2_with fail;refine kz.out.mono ?_;rintro e W5 ⟨rfl,lh⟩;have Dt:=xQ.out W5 lh;have uw:=aj W5 q Dt;have hz5:=aC Dt;have SE:=ae (td.out W5 lh);clear lh Dt td xQ kz gR cq SM;go_wp2;go_ret;exact⟨rfl,SE.out⟩
end
end Go.Proofs.YtipljcmmokaokaaGreat
