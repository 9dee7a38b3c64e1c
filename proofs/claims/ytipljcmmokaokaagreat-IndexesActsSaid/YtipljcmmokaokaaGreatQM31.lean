import Derived.Test.YtipljcmmokaokaaGreatQM21
import Derived.Test.YtipljcmmokaokaaGreatQM23
set_option linter.unusedVariables false
set_option linter.unusedSimpArgs false
set_option maxHeartbeats 4000000
namespace Go.Proofs.YtipljcmmokaokaaGreat
open Go.RowKit Go.Lib Go.Maps Go.WideMaps Go.Sort
set_option maxRecDepth 100000
noncomputable def Qy:Code:=(Tryz.f68.body.bind (kg 13)).getD .skip
theorem Yq {W0:World} {q g c T:Nat} {m:X.M} {v:Value} {VK VV:ByteArray} {Q:Exit→Act→World→Prop} (hr:W0.heap[q]? =some (gF m g c v)) (hv:VV=⟨m.value.toArray⟩) (hc:Mf VK VV) (res:Bool) (e:res=(Op.bytesLess VV.toList VK.toList||((VK.toList==VV.toList)&&(decide (m.at_<T)||(decide (T=m.at_)&&m.same))))) (u1 u2 u3 u4 u5 u6 u9 gY gS gq iF gG gH u16 gu gw gI gJ gK gL u23 u24 ju u26 jv u28 jw jx jy u32 u33 jz jA jB jC jD jE jF iG iH iI u44 iJ iK iL iM iN iO iP iQ iR iT jG jH jI jJ jK kA kB kC kD u64 kE kF kG kH kI kJ kK lX nC nD nE nG ll ln lq lr lu lx ly lA lB lC lD lF lG lH kL tE tF tG tH tI tJ tK:Value)
  (h:∀(d55 d56 d57 d58 d59 d60 d61 d62 d63 d64 d65 d66 d67 d68 d69 d70 d71 d72 d73 d74 d75 d76 d77 d78 d79 d80 d81 d82 d83 d84 d85 d86 d87 d88 d89:Value),Q .normal (⟨#[.pointer (some ⟨q,0,none⟩),u1,u2,u3,u4,u5,u6, .string VK, .int .i64 (T:Nat),u9,gY,gS,gq,iF,gG,gH,u16,gu,gw,gI,gJ,gK,gL,u23,u24,ju,u26,jv,u28,jw,jx,jy,u32,u33,jz,jA,jB,jC,jD,jE,jF,iG,iH,iI,u44,iJ,iK,iL,iM,iN,iO,iP,iQ,iR,iT,d55,d56,d57,d58,d59,d60,d61,d62,d63,d64,d65,d66,d67,d68,d69,d70,d71,d72,d73,d74,d75,d76,d77,d78,d79,d80,d81,d82,d83,d84,d85,d86,d87,d88,d89, .bool res,kL,tE,tF,tG,tH,tI,tJ,tK],[]⟩:Act) W0):Code.wp Tryz.prog Qy Q (⟨#[.pointer (some ⟨q,0,none⟩),u1,u2,u3,u4,u5,u6, .string VK, .int .i64 (T:Nat),u9,gY,gS,gq,iF,gG,gH,u16,gu,gw,gI,gJ,gK,gL,u23,u24,ju,u26,jv,u28,jw,jx,jy,u32,u33,jz,jA,jB,jC,jD,jE,jF,iG,iH,iI,u44,iJ,iK,iL,iM,iN,iO,iP,iQ,iR,iT,jG,jH,jI,jJ,jK,kA,kB,kC,kD,u64,kE,kF,kG,kH,kI,kJ,kK,lX,nC,nD,nE,nG,ll,ln,lq,lr,lu,lx,ly,lA,lB,lC,lD,lF,lG,lH,kL,tE,tF,tG,tH,tI,tJ,tK],[]⟩:Act) W0:=by
 have h5:(Op.bytesLess VV.toList VK.toList=true∧(VK.toList==VV.toList)=false∧Op.bytesLess VK.toList VV.toList=false∧res=true)∨(Op.bytesLess VV.toList VK.toList=false∧(VK.toList==VV.toList)=false∧Op.bytesLess VK.toList VV.toList=true∧res=false)∨(Op.bytesLess VV.toList VK.toList=false∧(VK.toList==VV.toList)=true∧(m.at_:Int)<(T:Nat)∧res=true)∨(Op.bytesLess VV.toList VK.toList=false∧(VK.toList==VV.toList)=true∧¬(m.at_:Int)<(T:Nat)∧((T:Int)==(m.at_:Nat))=false∧res=false)∨(Op.bytesLess VV.toList VK.toList=false∧(VK.toList==VV.toList)=true∧¬(m.at_:Int)<(T:Nat)∧((T:Int)==(m.at_:Nat))=true∧res=m.same):=by
  rcases hc with⟨h5,h2,h1,_⟩|⟨h5,h2,h1,_⟩|⟨h5,h2,h1,_⟩<;>rw[h1,h2]at e<;>by_cases h3:m.at_<T<;>by_cases h4:T=m.at_<;>simp[h1,h2,h5,h3,h4,e]<;>omega
 clear hc e;rcases h5 with⟨h1,h2,h5,rfl⟩|⟨h1,h2,h5,rfl⟩|⟨h1,h2,h3,rfl⟩|⟨h1,h2,h3,h4,rfl⟩|⟨h1,h2,h3,h4,rfl⟩
 all_goals
  have HX:=ae h;clear h
  conv=>arg 2;whnf
  have hc:=aj W0 q hr;rw[←hv]at hc;clear hr hv;go_wp2;exact HX.out _ _ _ _ _ _ _ _ _ _ _ _ _ _ _ _ _ _ _ _ _ _ _ _ _ _ _ _ _ _ _ _ _ _ _
section
variable {w w' : World} {q g c ct : Nat} {M : Nat → Prop} {m : X.M} {v : Value} {l : List HP}
def NxQ (w:World) (q g c:Nat) (M:Nat→Prop) (m:X.M) (v:Value) (l:List HP) (e:Ending) (w':World):Prop:=e= .returned (.tuple #[.string ⟨(m.next.2.1.getD []).toArray⟩, .string ⟨m.next.2.2.toArray⟩])∧HR w q g c M m.next.1 v l w'
theorem IC (hc:X.bM [52,55] [1,3] m.mode=X.good) (hl:m.lost=false) {r:X.Row} (h:m.at=some r):m.next=(m.take r,some r.b,m.qd r):=by
 unfold X.M.next;rw[if_neg (Decidable.not_not.2 hc),if_neg (by rw[hl];decide),h]
theorem ID (hc:X.bM [52,55] [1,3] m.mode=X.good) (hl:m.lost=false) (h:m.at=none):m.next=(m.dG,none,[49,48]):=by
 unfold X.M.next;rw[if_neg (Decidable.not_not.2 hc),if_neg (by rw[hl];decide),h]
abbrev Yr (m:X.M):Ending:= .returned (.tuple #[.string ⟨(m.next.2.1.getD []).toArray⟩, .string ⟨m.next.2.2.toArray⟩])
theorem IE (h:ft w q g c M m v l) (hc:X.bM [52,55] [1,3] m.mode≠X.good):
  Calls Tryz.prog 68 #[.pointer (some ⟨q,0,none⟩)] w λe w'=>e=Yr m∧HR w q g c M m.next.1 v l w':=by
 unfold Yr X.M.next;rw[if_pos hc];have HM:=ae (ik h.row [52,55] 1 3 3 [1,3] (by simp) hc);have HS:=ae (fe h);have hne:=kq (rS [52,55] [1,3] m.mode (by decide));obtain⟨rz,wE⟩:=hne;clear h hc;show Calls _ _ _ _ λe w'=>e= .returned (.tuple #[.string ⟨#[]⟩, .string ⟨(X.bM [52,55] [1,3] m.mode).toArray⟩])∧HR w q g c M m v l w';generalize(⟨(X.bM [52,55] [1,3] m.mode).toArray⟩:ByteArray)=S at HM rz wE⊢;go_enter Tryz.func68,Tryz.ntmps68;go_wp2_with fail;refine HM.out.mono ?_;rintro e w1 ⟨rfl,rfl⟩;go_wp2;go_ret2;exact⟨rfl,HS.out⟩
theorem Ep (h:ft w q g c M m v l) (hc:X.bM [52,55] [1,3] m.mode=X.good) (hl:m.lost=true):
  Calls Tryz.prog 68 #[.pointer (some ⟨q,0,none⟩)] w λe w'=>e=Yr m∧HR w q g c M m.next.1 v l w':=by
 unfold Yr X.M.next;rw[if_neg (Decidable.not_not.2 hc),if_pos hl];have HM:=ae (ei h.row [52,55] 1 3 3 [1,3] (by simp) (by decide) hc);have HS:Hid (HR w q g c M {m with read:=false} v l (w.setCell ⟨q,14,none⟩ (.bool false))):=ae ((fe h).set 14 (.bool false) (aB h.row 14 _) rfl rfl);have hcc:=aj w q h.row;have hz:=aC h.row;rw[hl]at hcc;clear h hc hl;show Calls _ _ _ _ λe w'=>e= .returned (.tuple #[.string ⟨#[]⟩, .string ⟨#[52,54]⟩])∧HR w q g c M {m with read:=false} v l w';go_enter Tryz.func68,Tryz.ntmps68;go_wp2_with fail;refine HM.out.mono ?_;rintro e w1 ⟨rfl,rfl⟩;go_wp2;go_ret2;exact⟨rfl,HS.out⟩
theorem MP (h:ft w q g c M m v l) (hM:∀k,M k→k<w.heap.size) (hf:cj m l) (hr:X.aQ m.ks m.size ct m.rows) (hk:m.key<m.ks.length) (hc:X.bM [52,55] [1,3] m.mode=X.good) (hl:m.lost=false):
  Calls Tryz.prog 68 #[.pointer (some ⟨q,0,none⟩)] w (NxQ w q g c M m v l):=by
 have HNS:=ae (λr=>IC (r:=r) hc hl);have PF:=ae (ID hc hl);have HM:=ae (ei h.row [52,55] 1 3 3 [1,3] (by simp) (by decide) hc);have hcc:=aj w q h.row;rw[hl]at hcc;have HH:=ae h;have xm:=ae (hf.bQ m.key);have sN:=ae (gA h hM hf m.key hk);have uY:=h.bQ m.key;have pV:Hid (m.at=((dg m.ks m.key l).map (·.1)).find? (X.sR m.ks m.key m.value m.at_ m.same)):=ae (by unfold X.M.at;rw[uY]);have sX:=ae (λi (hi:i<(dg m.ks m.key l).length)=>Mg h hr hk hi);have fc:=ae hk;have zr:(dg m.ks m.key l).length≤1000000:=by rw[lW];exact hf.len
 clear h hM hf hr hk hc hl uY;go_enter Tryz.func68,Tryz.ntmps68;go_wp2_with fail;refine HM.out.mono ?_;rintro e w1 ⟨rfl,rfl⟩;clear HM;go_wp2_with fail;refine sN.out.mono ?_;rintro e w1 ⟨vs,rfl,hb,MD⟩;have bV:=ae hb;have Bz:=ae MD;generalize dg m.ks m.key l=ls at xm pV sX Bz zr;clear hb MD hcc sN;obtain⟨A,cs,rfl,hlc,hat,_,_⟩:=Bz.out.cP;clear hat hlc;go_wp2_with fail;go_loopw [6] (fun u W=>∃i:Nat,i≤ls.length∧u= .int .i64 i∧Hid (∀t (ht:t<ls.length),t<i→X.sR m.ks m.key m.value m.at_ m.same ls[t].1=false)∧Hid (Below w1.heap.size w1 W)) (fun u _=>ls.length - (intOf u).toNat)
 case atStart=>exact⟨0,Nat.zero_le _,rfl,ae (λt _ h=>absurd h (Nat.not_lt_zero t)),ae (ak _ _)⟩
 case round=>
  obtain⟨i,hi,rfl,AD,fF⟩:=hrel;have Yi:=ae (Bz.out.below fF.out);have MQ:=ae (bV.out.trans (fF.out.mono bV.out.size));by_cases hlt:i<ls.length
  ·obtain⟨g0,c0,e0,hx1,hx2⟩:=Bz.out.cells hlt;clear hx1 hx2;injection e0 with e0 e1 e2;subst e0 e2;have jO:=xm.out.ts _ (List.getElem_mem hlt);obtain⟨gt,ct2,zt,Jz⟩:=(Bz.out.tm _ (List.getElem_mem hlt)).cell (i:=m.key) (by rw[jO];exact fc.out);have PB:(i:Int)<(ls.length:Nat):=(by omega);have TX:(m.key:Int)<(ls[i].1.ts.length:Nat):=(by rw[jO];have:=fc.out;omega);have zw:=ae (λ(W:World) (hb:Below wr.heap.size wr W)=>(⟨World.grownBy.refl W (some q),HH.out.below (MQ.out.trans (hb.mono MQ.out.size)),Yi.out.below hb⟩:kh W q g c M m v l (.slice (some ⟨g0,0,none⟩) ls.length cs) ls W));have HC:=ae (λ(W:World) (hb:Below wr.heap.size wr W)=>(zw.out W hb).md.row);have HK:=ae (λ(W:World) (hb:Below wr.heap.size wr W)=>(⟨((zw.out W hb).cells hlt).1,by rw[((zw.out W hb).cells hlt).2,zt],(zw.out W hb).tm (List.getElem_mem hlt) zt (i:=m.key) (by rw[jO];exact fc.out)⟩:W.cell? ⟨g0,i*2,none⟩=some (.string ⟨ls[i].1.b.toArray⟩)∧W.cell? ⟨g0,i*2+1,none⟩=some (.slice (some ⟨gt,0,none⟩) ls[i].1.ts.length ct2)∧W.cell? ⟨gt,m.key,none⟩=some (pT (ls[i].1.t m.key))));have kz:=ae (λ(W:World) (hb:Below wr.heap.size wr W)=>(zw.out W hb).part rfl xm.out fc.out (List.getElem_mem hlt));have tC:=ae (λ(W:World) (hb:Below wr.heap.size wr W)=>xe (zw.out W hb).md (zw.out W hb).rw_ xm.out i hlt fc.out);have gD:=ae (df (X.val m.ks m.key ls[i].1.b) m.value);have jQ:=ae (rR m.value (X.val m.ks m.key ls[i].1.b));have aW:=ae hlt;have nh:=ae (show i≤1000000 by omega);have wZ:=ae (PN m.ks m.key m.value m.at_ m.same ls[i].1);have sk:=ae (Bg (X.val m.ks m.key ls[i].1.b) m.value);generalize zu:(⟨(X.val m.ks m.key ls[i].1.b).toArray⟩:ByteArray)=VK at kz gD jQ sk;generalize Wa:(⟨m.value.toArray⟩:ByteArray)=VV at gD jQ sk;have UB:=ae Wa;have HD:=ae ((ak wr.heap.size wr).drew);clear Jz;clear jO zt zr zu Wa;go_upto_region 11 with fail;refine aD 10 (.rd 0 (.rd 1 (.rd 2 (.rd 3 (.rd 4 (.rd 5 (.rd 6 (.rd 7 (.rd 8 (.rd 9 .fin)))))))))) (λw'=>Below wr.heap.size wr w') (by kernel_rfl) (by kernel_rfl) (λc a d v w h=>by cases d<;>exact h) HD.out ?_
   iterate 10
    refine az (v:= ?_) (by rfl) (by rfl) (λw' hS=> ?_) (λK hK=> ?_);rotate_left
    ·have hc:=aj w' q (HC.out w' hS);obtain⟨k0,k1,k2⟩:=HK.out w' hS;clear hS;go_simp;try with_reducible rfl
    go_simp;refine hK _ ?_;clear hK K
   show wpList _ _ _ _ _ _;go_upto_region 12 with(refine(kz.out _ HD.out).mono ?_;rintro e w2 ⟨rfl,hb⟩);have br:=ae (HD.out.trans (hb.mono HD.out.size)).drew;clear hb HD kz;refine aD 9 (.rd 0 (.rd 1 (.rd 2 (.rd 3 (.rd 4 (.rd 5 (.rd 6 (.rd 7 (.rd 8 .fin))))))))) (λw'=>Below wr.heap.size wr w') (by kernel_rfl) (by kernel_rfl) (λc a d v w h=>by cases d<;>exact h) br.out ?_
   iterate 9
    refine az (v:= ?_) (by rfl) (by rfl) (λw' hS=> ?_) (λK hK=> ?_);rotate_left
    ·have hc:=aj w' q (HC.out w' hS);obtain⟨k0,k1,k2⟩:=HK.out w' hS;clear hS;go_simp;try with_reducible rfl
    go_simp;refine hK _ ?_;clear hK K
   show wpList _ _ _ _ _ _;obtain⟨k0,k1,k2⟩:=HK.out _ br.out;go_upto_region 13 with fail;clear k0 k1 k2;have hrow:=HC.out _ br.out;refine Yq hrow UB.out.symm sk.out (X.sR m.ks m.key m.value m.at_ m.same ls[i].1) (by rw[gD.out,jQ.out];exact wZ.out) _ _ _ _ _ _ _ _ _ _ _ _ _ _ _ _ _ _ _ _ _ _ _ _ _ _ _ _ _ _ _ _ _ _ _ _ _ _ _ _ _ _ _ _ _ _ _ _ _ _ _ _ _ _ _ _ _ _ _ _ _ _ _ _ _ _ _ _ _ _ _ _ _ _ _ _ _ _ _ _ _ _ _ _ _ _ _ _ _ _ _ _ _ _ _ _ ?_;intro d55 d56 d57 d58 d59 d60 d61 d62 d63 d64 d65 d66 d67 d68 d69 d70 d71 d72 d73 d74 d75 d76 d77 d78 d79 d80 d81 d82 d83 d84 d85 d86 d87 d88 d89;clear hrow gD jQ wZ UB sk HK HC;cases hres:X.sR m.ks m.key m.value m.at_ m.same ls[i].1 with
   |true=>
    have UJ:Hid (m.at=some ls[i].1):=ae (by rw[pV.out];exact ki aW.out AD.out hres);have uI:=ae (sX.out i aW.out);clear hres;go_wp2_with fail;refine(tC.out _ br.out).mono ?_;rintro e w3 ⟨rfl,hg,pJ⟩;have HG:=ae hg;have HMD:=ae pJ;clear hg pJ;go_wp2;go_ret2;have hb3:=MQ.out.trans (br.out.mono MQ.out.size);unfold NxQ;rw[HNS.out _ UJ.out];refine⟨?_,(qQ HH.out hb3).trans ⟨HG.out,HMD.out⟩⟩;show _=Ending.returned (.tuple #[.string ⟨(ls[i].1.b).toArray⟩, .string ⟨(m.qd ls[i].1).toArray⟩]);exact congrArg (λs:J.B=>Ending.returned (Value.tuple #[.string ⟨(ls[i].1.b).toArray⟩, .string ⟨s.toArray⟩])) uI.out
   |false=>
    have ZM:=ae hres;clear hres tC;go_wp2;go_roundw
    case rel=>exact⟨i+1,aW.out,by first|exact fo i nh.out|rfl,ae (λt ht hti=>by
     by_cases e:t=i
     ·subst e;exact ZM.out
     ·exact AD.out t ht (by omega)),ae (fF.out.trans (br.out.mono fF.out.size))⟩
    case measure=>first|exact dT aW.out nh.out|exact dr aW.out
  ·obtain rfl:i=ls.length:=(by omega);have Sy:=ae (λW (hb:Below wr.heap.size wr W)=>ij (HH.out.below (MQ.out.trans (hb.mono MQ.out.size))).row);have UJ:Hid (m.at=none):=ae (by rw[pV.out];exact mU (λt ht=>AD.out t ht ht));go_wp2_with fail;refine(Sy.out _ (ak _ _)).mono ?_;rintro e w3 ⟨⟨vx,rfl⟩,hg,hrow⟩;have HG:=ae hg;have jZ:=ae hrow;clear hg hrow;go_wp2;go_ret2;have h3:=qQ HH.out MQ.out;unfold NxQ;rw[PF.out UJ.out];exact⟨rfl,h3.trans ⟨HG.out,h3.2.turn HG.out jZ.out rfl rfl⟩⟩
theorem IG (h:ft w q g c M m v l) (hM:∀k,M k→k<w.heap.size) (hf:cj m l) (hr:X.aQ m.ks m.size ct m.rows) (hk:m.key<m.ks.length):
  Calls Tryz.prog 68 #[.pointer (some ⟨q,0,none⟩)] w λe w'=>e=Yr m∧HR w q g c M m.next.1 v l w':=by
 by_cases hc:X.bM [52,55] [1,3] m.mode=X.good
 ·cases hl:m.lost with
  |true=>exact Ep h hc hl
  |false=>exact MP h hM hf hr hk hc hl
 ·exact IE h hc
end
end Go.Proofs.YtipljcmmokaokaaGreat
