import Derived.Test.YtipljcmmokaokaaGreatQM10
set_option linter.unusedVariables false
set_option linter.unusedSimpArgs false
set_option maxHeartbeats 8000000
namespace Go.Proofs.YtipljcmmokaokaaGreat
open Go.RowKit Go.Lib Go.Maps Go.WideMaps
set_option maxRecDepth 100000
theorem jW.oH {w:World} {M:Nat→Prop} {v:Value} {l:List UInt8} (h:jW w M v l):∃A c,v= .slice A l.length c:=by
 rcases h with⟨h,_⟩|h
 ·exact bj h
 ·obtain⟨A,e⟩:=h.dg;exact⟨_,_,e⟩
section
variable {P : Program} {ops : Array Oper} {Q : Exit → Act → World → Prop} {S : World → Prop}
theorem iI {L:Act→World→Prop} {i:Nat} {o:Oper} {t:List (Nat×Bool)} {a:Act} {w:World} {v:Value} (ho:ops[i]? =some o) (hg:Region.wanted o (yielded ops a.tmps)=true) (hy:∀w',S w'→(execOp a.eval o).run P w'= .ok (.value v) w')
  (h:∀K:Act→Prop,(∀a,wpPlan P ops Q S L t a w→K a)→K (a.put o.dst v)):wpPlan P ops Q S L ((i,false)::t) a w:=
 ⟨o,v,ho, .inl ⟨hg,hy⟩,h _ fun _ h=>h⟩
end
theorem qd {s:J.St} (h:s.area=0):s.disk.area s.area=s.disk.a0:=by unfold J.iC.area;rw[if_pos h]
theorem qf {s:J.St} (h:s.area=1):s.disk.area s.area=s.disk.a1:=by unfold J.iC.area;rw[if_neg (by omega)]
theorem pA {s:J.St} {l rc:List UInt8} (ho:s.opn=true) (hsp:s.spoilt=false) (ha:s.disk.area s.area=l) (hr:J.record 0 (s.commits+1) s.changes=rc) (hf:l.length+rc.length≤4194304):J.dh s=J.kY s:=by
 have:J.fits s (J.record 0 (s.commits+1) s.changes)=true:=by unfold J.fits;rw[ha,hr];exact decide_eq_true hf
 unfold J.dh;rw[if_neg (by rw[ho];simp),if_neg (by rw[hsp];simp),if_pos this]
theorem rO {s:J.St} {l rc:List UInt8} (ho:s.opn=true) (hsp:s.spoilt=false) (ha:s.disk.area s.area=l) (hr:J.record 0 (s.commits+1) s.changes=rc) (hf:l.length+rc.length≤4194304) (hl:¬rc.length≤16777216 - s.logged):J.dh s=(s,0,9):=by
 rw[pA ho hsp ha hr hf];unfold J.kY;rw[hr,if_neg (by simp;intro _;omega)]
theorem vR {s:J.St} {l rc:List UInt8} (ho:s.opn=true) (hsp:s.spoilt=false) (ha:s.disk.area s.area=l) (hr:J.record 0 (s.commits+1) s.changes=rc) (hf:l.length+rc.length≤4194304) (hl:rc.length≤16777216 - s.logged):J.dh s=(J.aI s,(s.commits:Int)+1,0):=by
 rw[pA ho hsp ha hr hf];unfold J.kY;rw[hr,if_pos];have:J.fits s rc=true:=by unfold J.fits;rw[ha];exact decide_eq_true hf
 rw[this];simpa using hl
theorem Ka {A l r e:Nat} (h1:A≤8388608+l+e) (h2:r=13+e):A≤8388608+(l+r)+0:=by omega
theorem qg {s:J.St} {l rc:List UInt8} (o:Ok s) (ho:s.opn=true) (ha:s.disk.area s.area=l) (hr:J.record 0 (s.commits+1) s.changes=rc) (hf:l.length+rc.length≤4194304) (hl:s.logged+rc.length≤16777216):Ok (J.aI s):=by
 have Br:rc.length=13+(J.encs s.changes).length:=by rw[←hr];exact J.dG _ _ _
 have hd:(J.aI s).disk=s.disk.bQ s.area (l++rc):=by
  have:(J.aI s).disk=s.disk.bQ s.area (s.disk.area s.area++(J.record 0 (s.commits+1) s.changes).take (J.record 0 (s.commits+1) s.changes).length):=rfl;rw[this,ha,hr,List.take_length]
 have Mg:(J.aI s).logged=s.logged+rc.length:=by
  have:(J.aI s).logged=s.logged+(J.record 0 (s.commits+1) s.changes).length:=rfl;rw[this,hr]
 have hwr:(J.aI s).writes.length=s.writes.length+1:=by
  have:(J.aI s).writes=s.writes++[⟨0,s.area,J.record 0 (s.commits+1) s.changes⟩]:=rfl;rw[this];simp
 have hlen:(l++rc).length≤8388608:=by rw[List.length_append];omega
 have hcm:=o.commits;have qb:=o.writes;have tI:=o.now;have e1:(J.aI s).commits=s.commits+1:=rfl;have e2:(J.aI s).now=s.now:=rfl;have e3:(J.aI s).changes=[]:=rfl;have e4:(J.aI s).was=[]:=rfl;have e5:(J.aI s).opn=false:=rfl;have e6:(J.aI s).size=s.size:=rfl;have e7:(J.aI s).gen=s.gen:=rfl;have e8:(J.aI s).area=s.area:=rfl;have e9:(J.aI s).side=s.side:=rfl;generalize J.aI s=C at*;refine⟨by rw[e6];exact o.size, ?_,by rw[e7];exact o.gen,by rw[e8];exact o.area,by rw[e9];exact o.side,by rw[Mg];exact hl, ?_,by rw[e3];exact Nat.zero_le _,(fun h=>by rw[e5]at h;cases h),(fun _=>e3), ?_, ?_, ?_, ?_, ?_, ?_⟩
 ·rw[e1,Mg,Br];clear tI hd hlen;omega
 ·rw[hwr,Mg,Br];clear tI hd hlen;omega
 ·rw[hd];exact J.wK _ _ _ _ o.a0 hlen
 ·rw[hd];exact J.wL _ _ _ _ o.a1 hlen
 ·rw[hd,J.qU];exact o.h0
 ·rw[hd,J.qV];exact o.h1
 ·rw[e2,e3,Mg];exact Ka tI Br
 ·rw[e4];exact Nat.zero_le _
theorem yS {w:World} {M:Nat→Prop} {A:Option Addr} {n:Nat} {L:List J.cn} (h:R8 w M A n L):R8 w.drew M A n L:=h
theorem yT (p:Nat) (M:Nat→Prop) (s:J.St) (w:World) (h:bt w p M s) (ho:s.opn=true) (hsp:s.spoilt=false) (hs:tW s s.was) (hcm:s.commits+1<4294967296) (ha:s.area=0) (aT:s.disk.a0.length+(J.record 0 (s.commits+1) s.changes).length≤4194304):
  Calls Tryz.prog 98 #[.pointer (some ⟨p,0,none⟩)] w fun e w'=>e= .returned (.tuple #[.int .i64 (J.dh s).2.1, .int .i64 (J.dh s).2.2])∧∃M',bt w' p M' (J.dh s).1∧Step M M' w w':=by
 have HH:=aa h;have HS:=aa hs;have HST:=aa (kZ p M s true w h);have HO:=aa ho;obtain⟨bn,bw,ch,wr,b0,b1,b2,b3,d0,d1,d2,d3,h1,h2,h3,h4⟩:=h;obtain⟨Ac,nc,cc,rfl,hch,Fp⟩:=h3.chs.chs;obtain⟨A2,c2,rfl⟩:=h3.e2.oH;obtain⟨A3,c3,rfl⟩:=h3.e3.oH;have H1:=aa h1;have H2:=aa h2;have H3:=aa h3;have H4:=aa h4;have R9:=aa hch;have hc:=fun j=>ag w p j _ _ _ h1;rw[hsp]at hc;have oI:=aa (show(J.encs s.changes).length≤4194304 by have:=h4.size;have:=h4.encs ho;omega);have oV:=aa (show nc≤4194304 by have:=h4.size;have:=h4.chs;omega);have hcw:IntKind.i64.wrap ((s.commits:Int)+1)=((s.commits+1:Nat):Int):=by rw[IntWalk.i64_in _ (by omega)];omega
 have PK:=aa hcm;have PM:=aa hsp;clear h1 h2 h3 h4 ho hs hch hsp hcm Fp;go_enter Tryz.func98,Tryz.ntmps98;go_wp2_with fail;refine HST.out.mono ?_;rintro e w1 ⟨rfl,rfl⟩;rw[HO.out];go_upto_region 6 with fail;clear hc;refine aY 10 [(0,false),(1,false),(2,false),(3,false),(4,false),(5,false),(6,false),(7,false),(8,false),(9,true)] (fun w'=>w'.heap[p]? =some (.cells (bC s bn bw (.slice Ac nc cc) wr b0 b1 b2 b3 d0 d1 (.slice A2 s.disk.a0.length c2) (.slice A3 s.disk.a1.length c3)) 99 (0,0))) (by kernel_rfl) (by kernel_rfl) (fun c a d v w h=>by cases d<;>exact h) H1.out ?_;repeat
  refine bM (v:= ?_) (by rfl) (by rfl) (fun w' hS=> ?_) (fun K hK=> ?_);rotate_left
  ·have o8:=fun j=>ag w' p j _ _ _ hS;clear hS;go_simp;try with_reducible rfl
  go_simp;refine hK _ ?_;clear hK K
 refine cd (by rfl) (fun K hK=> ?_);go_simp;have ym:=tF 0 (s.commits+1) Ac nc cc s.changes w.drew bL (yS R9.out) (by omega) (by have:=PK.out;omega) (by have:=oI.out;omega) (by have:=oV.out;omega);refine ym.mono ?_;rintro e w2 ⟨v2,rfl,hown2,hb2⟩;clear ym;obtain⟨Ar,cr,rfl⟩:=bj hown2;have hb2:Below w.heap.size w w2:=iH hb2;have bB:=aa hb2;have kx:=aa (show w2.ownsRow w.heap.size _ _ _ _ _ from hown2);have dc:=aa ((hb2.block p (ah H1.out).1).trans H1.out);clear hown2 hb2;refine hK.out _ _ dc.out ?_;clear hK K;show wpList _ _ _ _ _ _;generalize Kb:J.record 0 (s.commits+1) s.changes=rc at kx⊢;have DJ:=aa Kb;have PN:=aa (show rc.length=13+(J.encs s.changes).length by rw[←Kb];exact J.dG _ _ _);rw[Kb]at aT;clear Kb;have TC:=aa (HH.out.q.1.cap.below bB.out);have rf:=aa (rk (M:=fun k=>M k∧k<w.heap.size) kx.out (fun k h=>h.2));have hc:=fun j=>ag w2 p j _ _ _ dc.out;have Kc:¬(4194304:Int)<(s.disk.a0.length:Int)+(rc.length:Int):=by omega
 have hfw:IntKind.i64.wrap ((s.disk.a0.length:Int)+(rc.length:Int))=(s.disk.a0.length:Int)+(rc.length:Int):=IntWalk.i64_in _ (by omega);have yU:=H4.out.logged;have Yb:IntKind.i64.wrap (16777216 - (s.logged:Int))=16777216 - (s.logged:Int):=IntWalk.i64_in _ (by omega);have tX:=aa yU;have lH:=aa aT;clear yU aT;go_upto_region 7 with fail;clear hc;refine aY 14 [(0,false),(1,false),(2,false),(3,false),(4,false),(5,false),(6,false),(7,false),(8,false),(9,false),(10,false),(11,false),(12,false),(13,false)] (fun w'=>w'.heap[p]? =some (.cells (bC s bn bw (.slice Ac nc cc) wr b0 b1 b2 b3 d0 d1 (.slice A2 s.disk.a0.length c2) (.slice A3 s.disk.a1.length c3)) 99 (0,0))) (by kernel_rfl) (by kernel_rfl) (fun c a d v w h=>by cases d<;>exact h) dc.out ?_;repeat
  first|refine bM (v:= ?_) (by rfl) (by rfl) (fun w' hS=> ?_) (fun K hK=> ?_)|refine iI (v:= ?_) (by rfl) (by rfl) (fun w' hS=> ?_) (fun K hK=> ?_)
  rotate_left
  ·have o8:=fun j=>ag w' p j _ _ _ hS;clear hS;go_simp;try with_reducible rfl
  go_simp;refine hK _ ?_;clear hK K
 show wpList _ _ _ _ _ _;go_upto_region 11 with fail;have GL:(16777216:Int) - (s.logged:Int)<(rc.length:Int)∨¬(16777216:Int) - (s.logged:Int)<(rc.length:Int):=Classical.em _;rcases GL with hlc|hlc
 ·have Bt:=aa (show J.dh s=(s,0,9)from rO HO.out PM.out (qd ha) DJ.out lH.out (by have:=tX.out;omega));refine aY 24 [(0,false),(1,false),(2,false),(3,false),(4,false),(5,false),(6,false),(7,false),(8,false),(9,false),(10,false),(11,false),(12,false),(13,false),(14,false),(15,false),(16,false),(17,false),(18,false),(19,false),(20,false),(21,false),(22,false),(23,false)] (fun w'=>w'.heap[p]? =some (.cells (bC s bn bw (.slice Ac nc cc) wr b0 b1 b2 b3 d0 d1 (.slice A2 s.disk.a0.length c2) (.slice A3 s.disk.a1.length c3)) 99 (0,0))) (by kernel_rfl) (by kernel_rfl) (fun c a d v w h=>by cases d<;>exact h) dc.out ?_;repeat
   first|refine bM (v:= ?_) (by rfl) (by rfl) (fun w' hS=> ?_) (fun K hK=> ?_)|refine iI (v:= ?_) (by rfl) (by rfl) (fun w' hS=> ?_) (fun K hK=> ?_)
   rotate_left
   ·have o8:=fun j=>ag w' p j _ _ _ hS;clear hS;go_simp;try with_reducible rfl
   go_simp;refine hK _ ?_;clear hK K
  show wpList _ _ _ _ _ _;go_wp2_with fail;go_ret2;rw[Bt.out];exact⟨rfl,M,HH.out.below bB.out.drew.drew,Step.aH bB.out.drew.drew⟩
 ·have Bt:=aa (show J.dh s=(J.aI s,(s.commits:Int)+1,0)from vR HO.out PM.out (qd ha) DJ.out lH.out (by have:=tX.out;omega));have TD:=aa (show s.logged+rc.length≤16777216 by have:=tX.out;omega);refine aY 24 [(0,false),(1,false),(2,false),(3,false),(4,false),(5,false),(6,false),(7,false),(8,false),(9,false),(10,false),(11,false),(12,false),(13,false),(14,false),(15,false),(16,false),(17,false),(18,false),(19,false),(20,false),(21,false),(22,false),(23,false)] (fun w'=>w'.heap[p]? =some (.cells (bC s bn bw (.slice Ac nc cc) wr b0 b1 b2 b3 d0 d1 (.slice A2 s.disk.a0.length c2) (.slice A3 s.disk.a1.length c3)) 99 (0,0))) (by kernel_rfl) (by kernel_rfl) (fun c a d v w h=>by cases d<;>exact h) dc.out ?_;repeat
   first|refine bM (v:= ?_) (by rfl) (by rfl) (fun w' hS=> ?_) (fun K hK=> ?_)|refine iI (v:= ?_) (by rfl) (by rfl) (fun w' hS=> ?_) (fun K hK=> ?_)
   rotate_left
   ·have o8:=fun j=>ag w' p j _ _ _ hS;clear hS;go_simp;try with_reducible rfl
   go_simp;refine hK _ ?_;clear hK K
  show wpList _ _ _ _ _ _;have hc:=fun j=>ag w2 p j _ _ _ dc.out;go_wp2_with fail;have ho:=H4.out;have ha0:=ho.a0;have ha1:=ho.a1;have Sj:=ho.h0;have Sk:=ho.h1;have qb:=ho.writes;have Mg:=ho.logged;have Nu:=lH.out;have Br:=PN.out;clear ho hc;refine(vQ p _ s 0 0 (.slice Ar rc.length cr) rc w2.drew.drew (TC.out.below (ai _ w2).drew.drew) (by omega) (by omega) (rf.out.step (Step.aH (ai _ w2).drew.drew)) (by omega) (by omega) (by omega) (fun _=>by omega) (by omega) (by omega) (by omega) (by omega)).mono ?_;rintro e w5 ⟨⟨r5,rfl⟩,M5,PO,GM⟩;have AX:(J.write s ⟨0,0,rc⟩).commits=s.commits:=rfl;generalize PQ:J.write s ⟨0,0,rc⟩=S5 at PO AX;have lX:=aa PQ;obtain⟨TE,Yc,Yd,TF,x0,x1,x2,x3,y0,y1,y2,y3,q1,q2,q3⟩:=PO;have Q1:=aa q1;have Q2:=aa q2;have Q3:=aa q3;have PR:=aa GM;have qN:=fun j=>ag w5 p j _ _ _ q1;have Ye:=az q1;clear PQ q1 q2 q3 GM ha0 ha1 Sj Sk qb Mg Nu Br;go_wp2_with fail;go_ret2;have sQ:=ay (ay (ay (ay (World.grownBy.refl w5 (some p)) 7 (.int .i64 ((s.commits:Int)+1))) 1 (.bool false)) 3 (.slice none 0 0)) 6 (.map none);have ij:=aC (aC (aC (aC Q1.out 7 (.int .i64 ((s.commits:Int)+1))) 1 (.bool false)) 3 (.slice none 0 0)) 6 (.map none);have P:=Q3.out.own Q1.out Q2.out sQ;have GN:J.aI s={S5 with commits:=s.commits+1,opn:=false,changes:=[],was:=[]}:=by
   rw[←lX.out,←DJ.out];unfold J.aI;rw[ha]
  have PS:Ok (J.aI s):=qg H4.out HO.out (qd ha) DJ.out lH.out TD.out;rw[Bt.out];refine⟨rfl,M5, ?_, ?_⟩
  ·rw[GN]at PS⊢;exact⟨TE,none, .slice none 0 0,TF,x0,x1,x2,x3,y0,y1,y2,y3,ij,Q2.out,⟨P.now,P.mbn,rfl,fS.iF _ _ _,fun k h=>(by cases h),P.wrs,P.f0,P.f1,P.f2,P.f3,P.e0,P.e1,P.e2,P.e3,P.dd⟩,PS⟩
  ·exact Step.yJ ((Step.aH bB.out.drew.drew).trans (PR.out.trans (Step.bY sQ (fun k e _=>by cases e;exact Q2.out))))
theorem yV (p:Nat) (M:Nat→Prop) (s:J.St) (w:World) (h:bt w p M s) (ho:s.opn=true) (hsp:s.spoilt=false) (hs:tW s s.was) (hcm:s.commits+1<4294967296) (ha:s.area=1) (aT:s.disk.a1.length+(J.record 0 (s.commits+1) s.changes).length≤4194304):
  Calls Tryz.prog 98 #[.pointer (some ⟨p,0,none⟩)] w fun e w'=>e= .returned (.tuple #[.int .i64 (J.dh s).2.1, .int .i64 (J.dh s).2.2])∧∃M',bt w' p M' (J.dh s).1∧Step M M' w w':=by
 have HH:=aa h;have HS:=aa hs;have HST:=aa (kZ p M s true w h);have HO:=aa ho;obtain⟨bn,bw,ch,wr,b0,b1,b2,b3,d0,d1,d2,d3,h1,h2,h3,h4⟩:=h;obtain⟨Ac,nc,cc,rfl,hch,Fp⟩:=h3.chs.chs;obtain⟨A2,c2,rfl⟩:=h3.e2.oH;obtain⟨A3,c3,rfl⟩:=h3.e3.oH;have H1:=aa h1;have H2:=aa h2;have H3:=aa h3;have H4:=aa h4;have R9:=aa hch;have hc:=fun j=>ag w p j _ _ _ h1;rw[hsp]at hc;have oI:=aa (show(J.encs s.changes).length≤4194304 by have:=h4.size;have:=h4.encs ho;omega);have oV:=aa (show nc≤4194304 by have:=h4.size;have:=h4.chs;omega);have hcw:IntKind.i64.wrap ((s.commits:Int)+1)=((s.commits+1:Nat):Int):=by rw[IntWalk.i64_in _ (by omega)];omega
 have PK:=aa hcm;have PM:=aa hsp;clear h1 h2 h3 h4 ho hs hch hsp hcm Fp;go_enter Tryz.func98,Tryz.ntmps98;go_wp2_with fail;refine HST.out.mono ?_;rintro e w1 ⟨rfl,rfl⟩;rw[HO.out];go_upto_region 6 with fail;clear hc;refine aY 10 [(0,false),(1,false),(2,false),(3,false),(4,false),(5,false),(6,false),(7,false),(8,false),(9,true)] (fun w'=>w'.heap[p]? =some (.cells (bC s bn bw (.slice Ac nc cc) wr b0 b1 b2 b3 d0 d1 (.slice A2 s.disk.a0.length c2) (.slice A3 s.disk.a1.length c3)) 99 (0,0))) (by kernel_rfl) (by kernel_rfl) (fun c a d v w h=>by cases d<;>exact h) H1.out ?_;repeat
  refine bM (v:= ?_) (by rfl) (by rfl) (fun w' hS=> ?_) (fun K hK=> ?_);rotate_left
  ·have o8:=fun j=>ag w' p j _ _ _ hS;clear hS;go_simp;try with_reducible rfl
  go_simp;refine hK _ ?_;clear hK K
 refine cd (by rfl) (fun K hK=> ?_);go_simp;have ym:=tF 0 (s.commits+1) Ac nc cc s.changes w.drew bL (yS R9.out) (by omega) (by have:=PK.out;omega) (by have:=oI.out;omega) (by have:=oV.out;omega);refine ym.mono ?_;rintro e w2 ⟨v2,rfl,hown2,hb2⟩;clear ym;obtain⟨Ar,cr,rfl⟩:=bj hown2;have hb2:Below w.heap.size w w2:=iH hb2;have bB:=aa hb2;have kx:=aa (show w2.ownsRow w.heap.size _ _ _ _ _ from hown2);have dc:=aa ((hb2.block p (ah H1.out).1).trans H1.out);clear hown2 hb2;refine hK.out _ _ dc.out ?_;clear hK K;show wpList _ _ _ _ _ _;generalize Kb:J.record 0 (s.commits+1) s.changes=rc at kx⊢;have DJ:=aa Kb;have PN:=aa (show rc.length=13+(J.encs s.changes).length by rw[←Kb];exact J.dG _ _ _);rw[Kb]at aT;clear Kb;have TC:=aa (HH.out.q.1.cap.below bB.out);have rf:=aa (rk (M:=fun k=>M k∧k<w.heap.size) kx.out (fun k h=>h.2));have hc:=fun j=>ag w2 p j _ _ _ dc.out;have Kc:¬(4194304:Int)<(s.disk.a1.length:Int)+(rc.length:Int):=by omega
 have hfw:IntKind.i64.wrap ((s.disk.a1.length:Int)+(rc.length:Int))=(s.disk.a1.length:Int)+(rc.length:Int):=IntWalk.i64_in _ (by omega);have yU:=H4.out.logged;have Yb:IntKind.i64.wrap (16777216 - (s.logged:Int))=16777216 - (s.logged:Int):=IntWalk.i64_in _ (by omega);have tX:=aa yU;have lH:=aa aT;clear yU aT;go_upto_region 7 with fail;clear hc;refine aY 14 [(0,false),(1,false),(2,false),(3,false),(4,false),(5,false),(6,false),(7,false),(8,false),(9,false),(10,false),(11,false),(12,false),(13,false)] (fun w'=>w'.heap[p]? =some (.cells (bC s bn bw (.slice Ac nc cc) wr b0 b1 b2 b3 d0 d1 (.slice A2 s.disk.a0.length c2) (.slice A3 s.disk.a1.length c3)) 99 (0,0))) (by kernel_rfl) (by kernel_rfl) (fun c a d v w h=>by cases d<;>exact h) dc.out ?_;repeat
  first|refine bM (v:= ?_) (by rfl) (by rfl) (fun w' hS=> ?_) (fun K hK=> ?_)|refine iI (v:= ?_) (by rfl) (by rfl) (fun w' hS=> ?_) (fun K hK=> ?_)
  rotate_left
  ·have o8:=fun j=>ag w' p j _ _ _ hS;clear hS;go_simp;try with_reducible rfl
  go_simp;refine hK _ ?_;clear hK K
 show wpList _ _ _ _ _ _;go_upto_region 11 with fail;have GL:(16777216:Int) - (s.logged:Int)<(rc.length:Int)∨¬(16777216:Int) - (s.logged:Int)<(rc.length:Int):=Classical.em _;rcases GL with hlc|hlc
 ·have Bt:=aa (show J.dh s=(s,0,9)from rO HO.out PM.out (qf ha) DJ.out lH.out (by have:=tX.out;omega));refine aY 24 [(0,false),(1,false),(2,false),(3,false),(4,false),(5,false),(6,false),(7,false),(8,false),(9,false),(10,false),(11,false),(12,false),(13,false),(14,false),(15,false),(16,false),(17,false),(18,false),(19,false),(20,false),(21,false),(22,false),(23,false)] (fun w'=>w'.heap[p]? =some (.cells (bC s bn bw (.slice Ac nc cc) wr b0 b1 b2 b3 d0 d1 (.slice A2 s.disk.a0.length c2) (.slice A3 s.disk.a1.length c3)) 99 (0,0))) (by kernel_rfl) (by kernel_rfl) (fun c a d v w h=>by cases d<;>exact h) dc.out ?_;repeat
   first|refine bM (v:= ?_) (by rfl) (by rfl) (fun w' hS=> ?_) (fun K hK=> ?_)|refine iI (v:= ?_) (by rfl) (by rfl) (fun w' hS=> ?_) (fun K hK=> ?_)
   rotate_left
   ·have o8:=fun j=>ag w' p j _ _ _ hS;clear hS;go_simp;try with_reducible rfl
   go_simp;refine hK _ ?_;clear hK K
  show wpList _ _ _ _ _ _;go_wp2_with fail;go_ret2;rw[Bt.out];exact⟨rfl,M,HH.out.below bB.out.drew.drew,Step.aH bB.out.drew.drew⟩
 ·have Bt:=aa (show J.dh s=(J.aI s,(s.commits:Int)+1,0)from vR HO.out PM.out (qf ha) DJ.out lH.out (by have:=tX.out;omega));have TD:=aa (show s.logged+rc.length≤16777216 by have:=tX.out;omega);refine aY 24 [(0,false),(1,false),(2,false),(3,false),(4,false),(5,false),(6,false),(7,false),(8,false),(9,false),(10,false),(11,false),(12,false),(13,false),(14,false),(15,false),(16,false),(17,false),(18,false),(19,false),(20,false),(21,false),(22,false),(23,false)] (fun w'=>w'.heap[p]? =some (.cells (bC s bn bw (.slice Ac nc cc) wr b0 b1 b2 b3 d0 d1 (.slice A2 s.disk.a0.length c2) (.slice A3 s.disk.a1.length c3)) 99 (0,0))) (by kernel_rfl) (by kernel_rfl) (fun c a d v w h=>by cases d<;>exact h) dc.out ?_;repeat
   first|refine bM (v:= ?_) (by rfl) (by rfl) (fun w' hS=> ?_) (fun K hK=> ?_)|refine iI (v:= ?_) (by rfl) (by rfl) (fun w' hS=> ?_) (fun K hK=> ?_)
   rotate_left
   ·have o8:=fun j=>ag w' p j _ _ _ hS;clear hS;go_simp;try with_reducible rfl
   go_simp;refine hK _ ?_;clear hK K
  show wpList _ _ _ _ _ _;have hc:=fun j=>ag w2 p j _ _ _ dc.out;go_wp2_with fail;have ho:=H4.out;have ha0:=ho.a0;have ha1:=ho.a1;have Sj:=ho.h0;have Sk:=ho.h1;have qb:=ho.writes;have Mg:=ho.logged;have Nu:=lH.out;have Br:=PN.out;clear ho hc;refine(vQ p _ s 0 1 (.slice Ar rc.length cr) rc w2.drew.drew (TC.out.below (ai _ w2).drew.drew) (by omega) (by omega) (rf.out.step (Step.aH (ai _ w2).drew.drew)) (by omega) (by omega) (by omega) (fun _=>by omega) (by omega) (by omega) (by omega) (by omega)).mono ?_;rintro e w5 ⟨⟨r5,rfl⟩,M5,PO,GM⟩;have AX:(J.write s ⟨0,1,rc⟩).commits=s.commits:=rfl;generalize PQ:J.write s ⟨0,1,rc⟩=S5 at PO AX;have lX:=aa PQ;obtain⟨TE,Yc,Yd,TF,x0,x1,x2,x3,y0,y1,y2,y3,q1,q2,q3⟩:=PO;have Q1:=aa q1;have Q2:=aa q2;have Q3:=aa q3;have PR:=aa GM;have qN:=fun j=>ag w5 p j _ _ _ q1;have Ye:=az q1;clear PQ q1 q2 q3 GM ha0 ha1 Sj Sk qb Mg Nu Br;go_wp2_with fail;go_ret2;have sQ:=ay (ay (ay (ay (World.grownBy.refl w5 (some p)) 7 (.int .i64 ((s.commits:Int)+1))) 1 (.bool false)) 3 (.slice none 0 0)) 6 (.map none);have ij:=aC (aC (aC (aC Q1.out 7 (.int .i64 ((s.commits:Int)+1))) 1 (.bool false)) 3 (.slice none 0 0)) 6 (.map none);have P:=Q3.out.own Q1.out Q2.out sQ;have GN:J.aI s={S5 with commits:=s.commits+1,opn:=false,changes:=[],was:=[]}:=by
   rw[←lX.out,←DJ.out];unfold J.aI;rw[ha]
  have PS:Ok (J.aI s):=qg H4.out HO.out (qf ha) DJ.out lH.out TD.out;rw[Bt.out];refine⟨rfl,M5, ?_, ?_⟩
  ·rw[GN]at PS⊢;exact⟨TE,none, .slice none 0 0,TF,x0,x1,x2,x3,y0,y1,y2,y3,ij,Q2.out,⟨P.now,P.mbn,rfl,fS.iF _ _ _,fun k h=>(by cases h),P.wrs,P.f0,P.f1,P.f2,P.f3,P.e0,P.e1,P.e2,P.e3,P.dd⟩,PS⟩
  ·exact Step.yJ ((Step.aH bB.out.drew.drew).trans (PR.out.trans (Step.bY sQ (fun k e _=>by cases e;exact Q2.out))))
end Go.Proofs.YtipljcmmokaokaaGreat
