import Derived.Test.YtipljcmmokaokaaGreatQM10
set_option linter.unusedVariables false
set_option linter.unusedSimpArgs false
set_option maxHeartbeats 40000000
namespace Go.Proofs.YtipljcmmokaokaaGreat
open Go.RowKit Go.Lib Go.Maps Go.WideMaps
set_option maxRecDepth 100000
theorem fG.wK {w:World} {M:Nat→Prop} {v:Value} {l:List UInt8} (h:fG w M v l):∃A c,v= .slice A l.length c:=by
 rcases h with⟨h,_⟩|h
 ·exact cJ h
 ·obtain⟨A,e⟩:=h.cP;exact⟨_,_,e⟩
section
variable {P : Program} {ops : Array Oper} {Q : Exit → Act → World → Prop} {S : World → Prop}
theorem mH {L:Act→World→Prop} {i:Nat} {o:Oper} {t:List (Nat×Bool)} {a:Act} {w:World} {v:Value} (ho:ops[i]? =some o) (hg:Region.wanted o (yielded ops a.tmps)=true) (hy:∀w',S w'→(execOp a.eval o).run P w'= .ok (.value v) w')
  (h:∀K:Act→Prop,(∀a,wpPlan P ops Q S L t a w→K a)→K (a.put o.dst v)):wpPlan P ops Q S L ((i,false)::t) a w:=
 ⟨o,v,ho, .inl ⟨hg,hy⟩,h _ λ_ h=>h⟩
end
theorem qx {s:J.St} (h:s.area=0):s.disk.area s.area=s.disk.a0:=by unfold J.eF.area;rw[if_pos h]
theorem qy {s:J.St} (h:s.area=1):s.disk.area s.area=s.disk.a1:=by unfold J.eF.area;rw[if_neg (by omega)]
theorem pA {s:J.St} {l rc:List UInt8} (ho:s.opn=true) (hsp:s.spoilt=false) (ha:s.disk.area s.area=l) (hr:J.record 0 (s.commits+1) s.changes=rc) (hf:l.length+rc.length≤4194304):J.dh s=J.ic s:=by
 have:J.fits s (J.record 0 (s.commits+1) s.changes)=true:=by unfold J.fits;rw[ha,hr];exact decide_eq_true hf
 unfold J.dh;rw[if_neg (by rw[ho];simp),if_neg (by rw[hsp];simp),if_pos this]
theorem sw {s:J.St} {l rc:List UInt8} (ho:s.opn=true) (hsp:s.spoilt=false) (ha:s.disk.area s.area=l) (hr:J.record 0 (s.commits+1) s.changes=rc) (hf:l.length+rc.length≤4194304) (hl:¬rc.length≤16777216 - s.logged):J.dh s=(s,0,9):=by
 rw[pA ho hsp ha hr hf];unfold J.ic;rw[hr,if_neg (by simp;intro _;omega)]
theorem wL {s:J.St} {l rc:List UInt8} (ho:s.opn=true) (hsp:s.spoilt=false) (ha:s.disk.area s.area=l) (hr:J.record 0 (s.commits+1) s.changes=rc) (hf:l.length+rc.length≤4194304) (hl:rc.length≤16777216 - s.logged):J.dh s=(J.aL s,(s.commits:Int)+1,0):=by
 rw[pA ho hsp ha hr hf];unfold J.ic;rw[hr,if_pos];have:J.fits s rc=true:=by unfold J.fits;rw[ha];exact decide_eq_true hf
 rw[this];simpa using hl
theorem Pk {A l r e:Nat} (h1:A≤8388608+l+e) (h2:r=13+e):A≤8388608+(l+r)+0:=by omega
theorem qz {s:J.St} {l rc:List UInt8} (o:Ok s) (ho:s.opn=true) (ha:s.disk.area s.area=l) (hr:J.record 0 (s.commits+1) s.changes=rc) (hf:l.length+rc.length≤4194304) (hl:s.logged+rc.length≤16777216):Ok (J.aL s):=by
 have rF:rc.length=13+(J.encs s.changes).length:=by rw[←hr];exact J.dP _ _ _
 have hd:(J.aL s).disk=s.disk.bN s.area (l++rc):=by
  have:(J.aL s).disk=s.disk.bN s.area (s.disk.area s.area++(J.record 0 (s.commits+1) s.changes).take (J.record 0 (s.commits+1) s.changes).length):=rfl;rw[this,ha,hr,List.take_length]
 have VQ:(J.aL s).logged=s.logged+rc.length:=by
  have:(J.aL s).logged=s.logged+(J.record 0 (s.commits+1) s.changes).length:=rfl;rw[this,hr]
 have hwr:(J.aL s).writes.length=s.writes.length+1:=by
  have:(J.aL s).writes=s.writes++[⟨0,s.area,J.record 0 (s.commits+1) s.changes⟩]:=rfl;rw[this];simp
 have hlen:(l++rc).length≤8388608:=by rw[List.length_append];omega
 have hcm:=o.commits;have sU:=o.writes;have ud:=o.now;have e1:(J.aL s).commits=s.commits+1:=rfl;have e2:(J.aL s).now=s.now:=rfl;have e3:(J.aL s).changes=[]:=rfl;have e4:(J.aL s).was=[]:=rfl;have e5:(J.aL s).opn=false:=rfl;have e6:(J.aL s).size=s.size:=rfl;have e7:(J.aL s).gen=s.gen:=rfl;have e8:(J.aL s).area=s.area:=rfl;have e9:(J.aL s).side=s.side:=rfl;generalize J.aL s=C at*;refine⟨by rw[e6];exact o.size, ?_,by rw[e7];exact o.gen,by rw[e8];exact o.area,by rw[e9];exact o.side,by rw[VQ];exact hl, ?_,by rw[e3];exact Nat.zero_le _,(λh=>by rw[e5]at h;cases h),(λ_=>e3), ?_, ?_, ?_, ?_, ?_, ?_⟩
 ·rw[e1,VQ,rF];clear ud hd hlen;omega
 ·rw[hwr,VQ,rF];clear ud hd hlen;omega
 ·rw[hd];exact J.xC _ _ _ _ o.a0 hlen
 ·rw[hd];exact J.xD _ _ _ _ o.a1 hlen
 ·rw[hd,J.rk];exact o.h0
 ·rw[hd,J.rp];exact o.h1
 ·rw[e2,e3,VQ];exact Pk ud rF
 ·rw[e4];exact Nat.zero_le _
theorem KX {w:World} {M:Nat→Prop} {A:Option Addr} {n:Nat} {L:List J.bZ} (h:Zx w M A n L):Zx w.drew M A n L:=h
theorem Sc:(∀(p:Nat) (M:Nat→Prop) (s:J.St) (w:World) (h:bA w p M s) (ho:s.opn=true) (hsp:s.spoilt=false) (hs:uv s s.was) (hcm:s.commits+1<4294967296) (ha:s.area=0) (aZ:s.disk.a0.length+(J.record 0 (s.commits+1) s.changes).length≤4194304),Calls Tryz.prog 98 #[.pointer (some ⟨p,0,none⟩)] w λe w'=>e= .returned (.tuple #[.int .i64 (J.dh s).2.1, .int .i64 (J.dh s).2.2])∧∃M',bA w' p M' (J.dh s).1∧Step M M' w w')∧(∀(p:Nat) (M:Nat→Prop) (s:J.St) (w:World) (h:bA w p M s) (ho:s.opn=true) (hsp:s.spoilt=false) (hs:uv s s.was) (hcm:s.commits+1<4294967296) (ha:s.area=1) (aZ:s.disk.a1.length+(J.record 0 (s.commits+1) s.changes).length≤4194304),Calls Tryz.prog 98 #[.pointer (some ⟨p,0,none⟩)] w λe w'=>e= .returned (.tuple #[.int .i64 (J.dh s).2.1, .int .i64 (J.dh s).2.2])∧∃M',bA w' p M' (J.dh s).1∧Step M M' w w'):=by
 refine⟨?z0, ?z1⟩
 case' z0=>intro p M s w h ho hsp hs hcm ha aZ
 case' z1=>(intro p M s w h ho hsp hs hcm ha aZ;have aH:=trivial)
 all_goals
  have HH:=ae h;have HS:=ae hs;have HST:=ae (lK p M s true w h);have HO:=ae ho;obtain⟨bn,bw,ch,wr,b0,b1,b2,b3,d0,d1,d2,d3,h1,h2,h3,h4⟩:=h;obtain⟨Ac,nc,cc,rfl,hch,Ox⟩:=h3.chs.chs;obtain⟨A2,c2,rfl⟩:=h3.e2.wK;obtain⟨A3,c3,rfl⟩:=h3.e3.wK;have H1:=ae h1;have H2:=ae h2;have H3:=ae h3;have H4:=ae h4;have HCH:=ae hch;have hc:=aj w p h1;rw[hsp]at hc;have gD:=ae (show(J.encs s.changes).length≤4194304 by have:=h4.size;have:=h4.encs ho;omega);have jQ:=ae (show nc≤4194304 by have:=h4.size;have:=h4.chs;omega);have hcw:IntKind.i64.wrap ((s.commits:Int)+1)=((s.commits+1:Nat):Int):=(by rw[IntWalk.i64_in _ (by omega)];omega);have TJ:=ae hcm;have ZE:=ae hsp;clear h1 h2 h3 h4 ho hs hch hsp hcm Ox;go_enter Tryz.func98,Tryz.ntmps98;go_wp2_with fail;refine HST.out.mono ?_;rintro e w1 ⟨rfl,rfl⟩;rw[HO.out];go_upto_region 6 with fail;clear hc;refine bK 10 [(0,false),(1,false),(2,false),(3,false),(4,false),(5,false),(6,false),(7,false),(8,false),(9,true)] (λw'=>w'.heap[p]? =some (.cells (bW s bn bw (.slice Ac nc cc) wr b0 b1 b2 b3 d0 d1 (.slice A2 s.disk.a0.length c2) (.slice A3 s.disk.a1.length c3)) 99 (0,0))) (by kernel_rfl) (by kernel_rfl) (λc a d v w h=>by cases d<;>exact h) H1.out ?_;repeat
   refine eB (v:= ?_) (by rfl) (by rfl) (λw' hS=> ?_) (λK hK=> ?_);rotate_left
   ·have Jw:=aj w' p hS;clear hS;go_simp;try with_reducible rfl
   go_simp;refine hK _ ?_;clear hK K
  refine fx (by rfl) (λK hK=> ?_);go_simp;have Kl:=CO 0 (s.commits+1) Ac nc cc s.changes w.drew bF (KX HCH.out) (by omega) (by have:=TJ.out;omega) (by have:=gD.out;omega) (by have:=jQ.out;omega);refine Kl.mono ?_;rintro e w2 ⟨v2,rfl,hown2,hb2⟩;clear Kl;obtain⟨Ar,cr,rfl⟩:=cJ hown2;have hb2:Below w.heap.size w w2:=qw hb2;have br:=ae hb2;have gN:=ae (show w2.ownsRow w.heap.size _ _ _ _ _ from hown2);have fy:=ae ((hb2.block p (ai H1.out).1).trans H1.out);clear hown2 hb2;refine hK.out _ _ fy.out ?_;clear hK K;show wpList _ _ _ _ _ _;generalize ZF:J.record 0 (s.commits+1) s.changes=rc at gN⊢;have Cm:=ae ZF;have GM:=ae (show rc.length=13+(J.encs s.changes).length by rw[←ZF];exact J.dP _ _ _);rw[ZF]at aZ;clear ZF;have HQ2:=ae (HH.out.q.1.cap.below br.out);have vP:=ae (uu (M:=λk=>M k∧k<w.heap.size) gN.out (λk h=>h.2));have hc:=aj w2 p fy.out;first
   |have aH:=aH
    have Au:¬(4194304:Int)<(s.disk.a1.length:Int)+(rc.length:Int):=(by omega);have hfw:IntKind.i64.wrap ((s.disk.a1.length:Int)+(rc.length:Int))=(s.disk.a1.length:Int)+(rc.length:Int):=IntWalk.i64_in _ (by omega)
    skip
   |have Au:¬(4194304:Int)<(s.disk.a0.length:Int)+(rc.length:Int):=by omega
    have hfw:IntKind.i64.wrap ((s.disk.a0.length:Int)+(rc.length:Int))=(s.disk.a0.length:Int)+(rc.length:Int):=IntWalk.i64_in _ (by omega)
  have Sd:=H4.out.logged;have hlw:IntKind.i64.wrap (16777216 - (s.logged:Int))=16777216 - (s.logged:Int):=IntWalk.i64_in _ (by omega);have Aw:=ae Sd;have mI:=ae aZ;clear Sd aZ;go_upto_region 7 with fail;clear hc;refine bK 14 [(0,false),(1,false),(2,false),(3,false),(4,false),(5,false),(6,false),(7,false),(8,false),(9,false),(10,false),(11,false),(12,false),(13,false)] (λw'=>w'.heap[p]? =some (.cells (bW s bn bw (.slice Ac nc cc) wr b0 b1 b2 b3 d0 d1 (.slice A2 s.disk.a0.length c2) (.slice A3 s.disk.a1.length c3)) 99 (0,0))) (by kernel_rfl) (by kernel_rfl) (λc a d v w h=>by cases d<;>exact h) fy.out ?_;repeat
   first|refine eB (v:= ?_) (by rfl) (by rfl) (λw' hS=> ?_) (λK hK=> ?_)|refine mH (v:= ?_) (by rfl) (by rfl) (λw' hS=> ?_) (λK hK=> ?_)
   rotate_left
   ·have Jw:=aj w' p hS;clear hS;go_simp;try with_reducible rfl
   go_simp;refine hK _ ?_;clear hK K
  show wpList _ _ _ _ _ _;go_upto_region 11 with fail;have WJ:(16777216:Int) - (s.logged:Int)<(rc.length:Int)∨¬(16777216:Int) - (s.logged:Int)<(rc.length:Int):=Classical.em _;rcases WJ with hlc|hlc
  ·first
    |have aH:=aH
     have KY:=ae (show J.dh s=(s,0,9)from sw HO.out ZE.out (qy ha) Cm.out mI.out (by have:=Aw.out;omega))
     skip
    |have KY:=ae (show J.dh s=(s,0,9)from sw HO.out ZE.out (qx ha) Cm.out mI.out (by have:=Aw.out;omega))
   refine bK 24 [(0,false),(1,false),(2,false),(3,false),(4,false),(5,false),(6,false),(7,false),(8,false),(9,false),(10,false),(11,false),(12,false),(13,false),(14,false),(15,false),(16,false),(17,false),(18,false),(19,false),(20,false),(21,false),(22,false),(23,false)] (λw'=>w'.heap[p]? =some (.cells (bW s bn bw (.slice Ac nc cc) wr b0 b1 b2 b3 d0 d1 (.slice A2 s.disk.a0.length c2) (.slice A3 s.disk.a1.length c3)) 99 (0,0))) (by kernel_rfl) (by kernel_rfl) (λc a d v w h=>by cases d<;>exact h) fy.out ?_;repeat
    first|refine eB (v:= ?_) (by rfl) (by rfl) (λw' hS=> ?_) (λK hK=> ?_)|refine mH (v:= ?_) (by rfl) (by rfl) (λw' hS=> ?_) (λK hK=> ?_)
    rotate_left
    ·have Jw:=aj w' p hS;clear hS;go_simp;try with_reducible rfl
    go_simp;refine hK _ ?_;clear hK K
   show wpList _ _ _ _ _ _;go_wp2_with fail;go_ret2;rw[KY.out];exact⟨rfl,M,HH.out.below br.out.drew.drew,Step.aI br.out.drew.drew⟩
  ·first
    |have aH:=aH
     have KY:=ae (show J.dh s=(J.aL s,(s.commits:Int)+1,0)from wL HO.out ZE.out (qy ha) Cm.out mI.out (by have:=Aw.out;omega))
     skip
    |have KY:=ae (show J.dh s=(J.aL s,(s.commits:Int)+1,0)from wL HO.out ZE.out (qx ha) Cm.out mI.out (by have:=Aw.out;omega))
   have HLC:=ae (show s.logged+rc.length≤16777216 by have:=Aw.out;omega);refine bK 24 [(0,false),(1,false),(2,false),(3,false),(4,false),(5,false),(6,false),(7,false),(8,false),(9,false),(10,false),(11,false),(12,false),(13,false),(14,false),(15,false),(16,false),(17,false),(18,false),(19,false),(20,false),(21,false),(22,false),(23,false)] (λw'=>w'.heap[p]? =some (.cells (bW s bn bw (.slice Ac nc cc) wr b0 b1 b2 b3 d0 d1 (.slice A2 s.disk.a0.length c2) (.slice A3 s.disk.a1.length c3)) 99 (0,0))) (by kernel_rfl) (by kernel_rfl) (λc a d v w h=>by cases d<;>exact h) fy.out ?_;repeat
    first|refine eB (v:= ?_) (by rfl) (by rfl) (λw' hS=> ?_) (λK hK=> ?_)|refine mH (v:= ?_) (by rfl) (by rfl) (λw' hS=> ?_) (λK hK=> ?_)
    rotate_left
    ·have Jw:=aj w' p hS;clear hS;go_simp;try with_reducible rfl
    go_simp;refine hK _ ?_;clear hK K
   show wpList _ _ _ _ _ _;have hc:=aj w2 p fy.out;go_wp2_with fail;have ho:=H4.out;have ha0:=ho.a0;have ha1:=ho.a1;have hh0:=ho.h0;have hh1:=ho.h1;have sU:=ho.writes;have VQ:=ho.logged;have aaY:=mI.out;have rF:=GM.out;clear ho hc;first
    |have aH:=aH
     refine(wJ p _ s 0 1 (.slice Ar rc.length cr) rc w2.drew.drew (HQ2.out.below (ak _ w2).drew.drew) (by omega) (by omega) (vP.out.step (Step.aI (ak _ w2).drew.drew)) (by omega) (by omega) (by omega) (λ_=>by omega) (by omega) (by omega) (by omega) (by omega)).mono ?_
    |refine(wJ p _ s 0 0 (.slice Ar rc.length cr) rc w2.drew.drew (HQ2.out.below (ak _ w2).drew.drew) (by omega) (by omega) (vP.out.step (Step.aI (ak _ w2).drew.drew)) (by omega) (by omega) (by omega) (λ_=>by omega) (by omega) (by omega) (by omega) (by omega)).mono ?_
   rintro e w5 ⟨⟨r5,rfl⟩,M5,hq5,WK⟩;first
    |have aH:=aH
     have KD:(J.write s ⟨0,1,rc⟩).commits=s.commits:=rfl;generalize Pm:J.write s ⟨0,1,rc⟩=S5 at hq5 KD
    |have KD:(J.write s ⟨0,0,rc⟩).commits=s.commits:=rfl
     generalize Pm:J.write s ⟨0,0,rc⟩=S5 at hq5 KD
   have lQ:=ae Pm;obtain⟨bn5,bw5,ch5,wr5,x0,x1,x2,x3,y0,y1,y2,y3,q1,q2,q3⟩:=hq5;have Q1:=ae q1;have Q2:=ae q2;have Q3:=ae q3;have HT5:=ae WK;have uw:=aj w5 p q1;have hf5:=aC q1;clear Pm q1 q2 q3 WK ha0 ha1 hh0 hh1 sU VQ aaY rF;go_wp2_with fail;go_ret2;have vO:=aA (aA (aA (aA (World.grownBy.refl w5 (some p)) 7 (.int .i64 ((s.commits:Int)+1))) 1 (.bool false)) 3 (.slice none 0 0)) 6 (.map none);have eV:=aB (aB (aB (aB Q1.out 7 (.int .i64 ((s.commits:Int)+1))) 1 (.bool false)) 3 (.slice none 0 0)) 6 (.map none);have P:=Q3.out.own Q1.out Q2.out vO;have WL:J.aL s={S5 with commits:=s.commits+1,opn:=false,changes:=[],was:=[]}:=by
    rw[←lQ.out,←Cm.out];unfold J.aL;rw[ha]
   first
    |have aH:=aH
     have hOk:Ok (J.aL s):=qz H4.out HO.out (qy ha) Cm.out mI.out HLC.out
     skip
    |have hOk:Ok (J.aL s):=qz H4.out HO.out (qx ha) Cm.out mI.out HLC.out
   rw[KY.out];refine⟨rfl,M5, ?_, ?_⟩
   ·rw[WL]at hOk⊢;exact⟨bn5,none, .slice none 0 0,wr5,x0,x1,x2,x3,y0,y1,y2,y3,eV,Q2.out,⟨P.now,P.mbn,rfl,en.ey _ _ _,λk h=>(by cases h),P.wrs,P.f0,P.f1,P.f2,P.f3,P.e0,P.e1,P.e2,P.e3,P.dd⟩,hOk⟩
   ·exact Step.Fp ((Step.aI br.out.drew.drew).trans (HT5.out.trans (Step.cC vO (λk e _=>by cases e;exact Q2.out))))
abbrev Ax:= @Sc.1
abbrev Ay:= @Sc.2
end Go.Proofs.YtipljcmmokaokaaGreat
