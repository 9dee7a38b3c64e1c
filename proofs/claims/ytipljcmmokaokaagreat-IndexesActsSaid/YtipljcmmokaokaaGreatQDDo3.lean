import Derived.Test.YtipljcmmokaokaaGreatQDDoH
set_option linter.unusedVariables false
set_option linter.unusedSimpArgs false
set_option maxHeartbeats 40000000
namespace Go.Proofs.YtipljcmmokaokaaGreat
open Go.RowKit Go.Lib Go.Maps Go.WideMaps Go.Sort
set_option maxRecDepth 100000
section
variable {w0 : World} {p pf q g c u : Nat} {nm : J.B} {fs : List (Nat × Obj)} {ds : List Nat} {m : X.M} {L : List (List (J.B × J.B))}
theorem Ot:(∀{w0:World} {p pf q g c u:Nat} {nm:J.B} {fs:List (Nat×Obj)} {ds:List Nat} {m:X.M} {L:List (List (J.B×J.B))} (what key n:Nat) (Av:Option Addr) (cv:Nat) (b:J.B) (od:Bool) (w:World) (cd:ra w0 p pf nm u q g c fs ds m L n Av cv b w) (hw:(what:Int).tmod 12=9),Calls Tryz.prog 22 #[.pointer (some ⟨pf,0,none⟩), .pointer (some ⟨q,0,none⟩), .agg #[.int .u8 what, .int .u8 key, .int .u8 n, .slice Av b.length cv], .bool od] w (Jk w0 p pf nm u q g c fs ds (m.rewrite (rc b)).1 L))∧(∀{w0:World} {p pf q g c u:Nat} {nm:J.B} {fs:List (Nat×Obj)} {ds:List Nat} {m:X.M} {L:List (List (J.B×J.B))} (what key n:Nat) (Av:Option Addr) (cv:Nat) (b:J.B) (od:Bool) (w:World) (cd:ra w0 p pf nm u q g c fs ds m L n Av cv b w) (hw:(what:Int).tmod 12=10),Calls Tryz.prog 22 #[.pointer (some ⟨pf,0,none⟩), .pointer (some ⟨q,0,none⟩), .agg #[.int .u8 what, .int .u8 key, .int .u8 n, .slice Av b.length cv], .bool od] w (Jk w0 p pf nm u q g c fs ds (m.delete (rc b)).1 L)):=by
 refine⟨?z0, ?z1⟩
 case' z0=>intro w0 p pf q g c u nm fs ds m L what key n Av cv b od w cd hw
 case' z1=>(intro w0 p pf q g c u nm fs ds m L what key n Av cv b od w cd hw;have aH:=trivial)
 all_goals
  have cF:=heap_alloc_new w (bH what key n Av b.length cv);have hb0:=(ak w.heap.size w).alloc (aq _) (bH what key n Av b.length cv);have hcb:=aj _ w.heap.size cF;have eH:=ae cF;have cn:=ae hb0;have mh:=ae (jo _ b bF (w.alloc (bH what key n Av b.length cv)) (cd.sl.step (Step.aI hb0)) cd.bl);have oO:=ae cd;have Jl:=ae cd.h.EP;have HN:=ae cd.n;clear cd cF hb0;go_enter Tryz.func22,Tryz.ntmps22;go_wp2_with fail;refine mh.out.mono ?_;rintro e w1 ⟨v',rfl,hown,hne,hb⟩;obtain⟨rF,gb,cb,o,rfl,hcc,hgb,jL,eG,hby⟩:=jq hown hne;have hr1:=bp hb eH.out;have xx:=cn.out.trans (hb.mono cn.out.size);have HH:Hid (HY w0 p pf nm u q g c ((gb,o)::(w.heap.size,(bH what key n Av b.length cv))::fs) ds m m L w1):=ae ((oO.out.h.add xx (gs:=[(gb,o),(w.heap.size,(bH what key n Av b.length cv))]) (λx hx=>by
   simp only[List.mem_cons,List.not_mem_nil,or_false]at hx;rcases hx with rfl|rfl
   ·exact⟨aw cn.out.size hgb,jL⟩
   ·exact⟨aq _,hr1⟩)))
  clear hcb;have hcb:=aj w1 w.heap.size hr1;have Oe:=ae (kn (w0:=w0) (p:=p) (fs:=(gb,o)::(w.heap.size,(bH what key n Av b.length cv))::fs) eG jL af);have lY:=ae hby
  have Ah:=ae (And.intro hcc (ai jL).1);have HU:=ae oO.out.ub;have eT:=ae oO.out.bd;have GM:=ae (show(rc b).length≤7 from pO b);have vL:Hid (∀(m':X.M) (W:World),nj w0 p pf nm u q g c ((gb,o)::(w.heap.size,(bH what key n Av b.length cv))::fs) ds m' m' L W→nj w0 p pf nm u q g c fs ds m' m' L W):=ae (λm' W h=>h.cY (λx hx=>ag _ (ag _ hx)) Jl.out);have Og:=ae jL;generalize w.heap.size=bx at*;clear hown hne hb hcc hgb eG hby hr1 xx oO cn eH mh jL rF;generalize rc b=r at*;have hbl:r.length≤1000000:=(by have:=GM.out;omega);first
   |have aH:=aH
    have HW:=ae (λW (h:HY w0 p pf nm u q g c ((gb,o)::(bx,bH what key n Av b.length cv)::fs) ds m m L W)=>Jg h HU.out _ r Oe.out hbl);have zh:=ae (λL' W (h:HY w0 p pf nm (u+1) q g c ((gb,o)::(bx,bH what key n Av b.length cv)::fs) ds (m.delete r).1 m L' W)=>ES h HH.out.mok (by have:=HU.out;omega) r hbl)
    skip
   |have HW:=ae (λW (h:HY w0 p pf nm u q g c ((gb,o)::(bx,bH what key n Av b.length cv)::fs) ds m m L W)=>ER h HU.out _ r Oe.out)
    have zh:=ae (λL' W (h:HY w0 p pf nm (u+1) q g c ((gb,o)::(bx,bH what key n Av b.length cv)::fs) ds (m.rewrite r).1 m L' W)=>Cg h HH.out.mok (by have:=HU.out;omega) r hbl)
  have Wp:=ae (λ(W:World) (h:W.heap[gb]? =some o)=>zg lY.out Og.out h);clear hbl;first
   |have aH:=aH
    obtain⟨m',st,hE⟩:∃m' st,m.delete r=(m',st):=⟨_,_,rfl⟩
    skip
   |obtain⟨m',st,hE⟩:∃m' st,m.rewrite r=(m',st):=⟨_,_,rfl⟩
  rw[hE]at HW;rw[hE]at zh;replace HW:Hid (∀W,HY w0 p pf nm u q g c ((gb,o)::(bx,bH what key n Av b.length cv)::fs) ds m m L W→Calls _ _ _ W λe w'=>e= .returned (.string ⟨st.toArray⟩)∧nj w0 p pf nm u q g c ((gb,o)::(bx,bH what key n Av b.length cv)::fs) ds m' m L w'):=HW;replace zh:Hid (∀L' W,HY w0 p pf nm (u+1) q g c ((gb,o)::(bx,bH what key n Av b.length cv)::fs) ds m' m L' W→Calls _ _ _ W λe w'=>e= .returned (.string ⟨st.toArray⟩)∧HY w0 p pf nm (u+1) q g c ((gb,o)::(bx,bH what key n Av b.length cv)::fs) ds m' m' L' w'):=zh;first
   |have aH:=aH
    go_upto_region 30 with fail
   |go_upto_region 28 with fail
  have Oq:=ae (HH.out.below ((ak _ w1).drew));have Ci:=ae (lY.out.step (Step.aI ((ak w1.heap.size w1).drew)));refine aD 6 (.rd 0 (.rd 1 (.rd 3 (.rd 4 (.rd 5 (.wr 2 .fin)))))) (λw'=>By w' bF (some ⟨gb,0,none⟩) r.length r) (by kernel_rfl) (by kernel_rfl) (λc a d v w h=>by cases d<;>exact h) Ci.out ?_;clear hcb;generalize w1.drew=V at Oq Ci⊢;repeat
   refine az (v:= ?_) (by rfl) (by rfl) (λw' hS=> ?_) (λK hK=> ?_);rotate_left
   ·have hcv:=bu (c:=cb) hS;clear hS;go_simp;try with_reducible rfl
   go_simp;refine hK _ ?_;clear hK K
  refine wpPm_write (by rfl) (λK hK=> ?_);go_simp;refine(HW.out _ Oq.out).mono ?_;rintro e w2 ⟨rfl,L',hL,h2⟩;have HL:=ae hL;have HM:=ae (zh.out _ _ h2);have br:=ae (Wp.out _ (h2.get af));refine hK.out _ _ (λw'=>By w' bF (some ⟨gb,0,none⟩) r.length r) (λ_ h=>h) br.out ?_;clear hK K h2 hL HW zh Oq;show wpList _ _ _ _ _ _;go_wp2_with fail;refine HM.out.mono ?_;rintro e w3 ⟨rfl,h3⟩;have H3:=ae (vL.out _ _ ⟨L',HL.out,h3⟩);clear h3 HM vL;go_wp2;go_ret;exact⟨rfl,by rw[hE];exact H3.out⟩
abbrev EU:= @Ot.1
abbrev Jp:= @Ot.2
theorem Ou (what key n:Nat) (Av:Option Addr) (cv:Nat) (b:J.B) (od:Bool) (w:World) (cd:ra w0 p pf nm u q g c fs ds m L n Av cv b w) (hw:(what:Int).tmod 12=11):
  Calls Tryz.prog 22 #[.pointer (some ⟨pf,0,none⟩), .pointer (some ⟨q,0,none⟩), .agg #[.int .u8 what, .int .u8 key, .int .u8 n, .slice Av b.length cv], .bool od] w (Jk w0 p pf nm u q g c fs ds (m.start (((key%5:Nat):Int) - 1) (n%6) ((rc b).take (n/6%4))).1 L):=by
 have r5:(key:Int).tmod 5=((key%5:Nat):Int):=rfl;have hd5:key%5<5:=Nat.mod_lt _ (by decide);have r6:(n:Int).tmod 6=((n%6:Nat):Int):=rfl;have hd6:n%6<6:=Nat.mod_lt _ (by decide);have q6:(n:Int).tdiv 6=((n/6:Nat):Int):=rfl;have r4:((n/6:Nat):Int).tmod 4=((n/6%4:Nat):Int):=rfl;have Yy:n/6%4<4:=Nat.mod_lt _ (by decide);have hq6:n/6<256:=by have:=cd.n;omega
 generalize n/6%4=d4 at Yy r4⊢;generalize n/6=dq at q6 r4 hq6;generalize n%6=d6 at hd6 r6⊢;have hwr:IntKind.u8.wrap (d6:Int)=d6:=by rw[IntKind.wrap_u8];omega
 have hwq:IntKind.u8.wrap (dq:Int)=dq:=by rw[IntKind.wrap_u8];omega
 generalize key%5=d5 at hd5 r5⊢;have adk:wrap64 ((d5:Int) - 1)=(d5:Int) - 1:=IntWalk.wrap64_in _ (by omega);have Zo:IntKind.i64.wrap ((d5:Int) - 1)=(d5:Int) - 1:=by rw[IntKind.wrap_i64];omega
 have cF:=heap_alloc_new w (bH what key n Av b.length cv);have hb0:=(ak w.heap.size w).alloc (aq _) (bH what key n Av b.length cv);have hcb:=aj _ w.heap.size cF;have eH:=ae cF;have cn:=ae hb0;have mh:=ae (jo _ b bF (w.alloc (bH what key n Av b.length cv)) (cd.sl.step (Step.aI hb0)) cd.bl);have oO:=ae cd;have Jl:=ae cd.h.EP;have HN:=ae cd.n;clear cd cF hb0;go_enter Tryz.func22,Tryz.ntmps22;go_wp2_with fail;refine mh.out.mono ?_;rintro e w1 ⟨v',rfl,hown,hne,hb⟩;obtain⟨rF,gb,cb,o,rfl,hcc,hgb,jL,eG,hby⟩:=jq hown hne;have hr1:=bp hb eH.out;have xx:=cn.out.trans (hb.mono cn.out.size);have HH:Hid (HY w0 p pf nm u q g c ((gb,o)::(w.heap.size,(bH what key n Av b.length cv))::fs) ds m m L w1):=ae ((oO.out.h.add xx (gs:=[(gb,o),(w.heap.size,(bH what key n Av b.length cv))]) (λx hx=>by
  simp only[List.mem_cons,List.not_mem_nil,or_false]at hx;rcases hx with rfl|rfl
  ·exact⟨aw cn.out.size hgb,jL⟩
  ·exact⟨aq _,hr1⟩)))
 clear hcb;have hcb:=aj w1 w.heap.size hr1;have Oe:=ae (kn (w0:=w0) (p:=p) (fs:=(gb,o)::(w.heap.size,(bH what key n Av b.length cv))::fs) eG jL af);have lY:=ae hby
 have Ah:=ae (And.intro hcc (ai jL).1);have HU:=ae oO.out.ub;have eT:=ae oO.out.bd;have GM:=ae (show(rc b).length≤7 from pO b);have vL:Hid (∀(m':X.M) (W:World),nj w0 p pf nm u q g c ((gb,o)::(w.heap.size,(bH what key n Av b.length cv))::fs) ds m' m' L W→nj w0 p pf nm u q g c fs ds m' m' L W):=ae (λm' W h=>h.cY (λx hx=>ag _ (ag _ hx)) Jl.out);have Og:=ae jL;generalize w.heap.size=bx at*;clear hown hne hb hcc hgb eG hby hr1 xx oO cn eH mh jL rF;generalize rc b=r at*;obtain⟨jn,Cn,SM,VN,hj3⟩:∃jn:Nat,min ((r.length:Nat):Int) (d4:Int)=(jn:Int)∧r.take d4=r.take jn∧jn≤r.length∧jn≤4:=by
  refine⟨min r.length d4,by omega, ?_,by omega,by omega⟩;rw[List.take_eq_take_iff];omega
 rw[SM];have hjc:(jn:Int)≤(cb:Nat):=by have:=Ah.out.1;omega
 have Zp:jn≤cb:=by omega
 have HBT:=ae (QW lY.out VN);have Zq:=ae (kn (w0:=w0) (p:=p) (fs:=((gb,o)::(bx,bH what key n Av b.length cv)::fs)) (Zn HBT.out Zp Ah.out.2) Og.out af);have HW:=ae (λW (h:HY w0 p pf nm u q g c ((gb,o)::(bx,bH what key n Av b.length cv)::fs) ds m m L W)=>NZ h HU.out ((d5:Int) - 1) d6 (by omega) _ (r.take jn) Zq.out);have zh:=ae (λL' W (h:HY w0 p pf nm (u+1) q g c ((gb,o)::(bx,bH what key n Av b.length cv)::fs) ds (m.start ((d5:Int) - 1) d6 (r.take jn)).1 m L' W)=>Ji h HH.out.mok (by have:=HU.out;omega) ((d5:Int) - 1) d6 (by omega) (r.take jn));have Wp:=ae (λ(W:World) (h:W.heap[gb]? =some o)=>zg HBT.out Og.out h);clear Zp VN hj3 Oe;generalize XC:r.take jn=rt at HBT Zq HW zh Wp⊢;have HRT:=ae (SM.trans XC);clear SM XC;obtain⟨m',st,hE⟩:∃m' st,m.start ((d5:Int) - 1) d6 rt=(m',st):=⟨_,_,rfl⟩;rw[hE]at HW;rw[hE]at zh;replace HW:Hid (∀W,HY w0 p pf nm u q g c ((gb,o)::(bx,bH what key n Av b.length cv)::fs) ds m m L W→Calls _ _ _ W λe w'=>e= .returned (.string ⟨st.toArray⟩)∧nj w0 p pf nm u q g c ((gb,o)::(bx,bH what key n Av b.length cv)::fs) ds m' m L w'):=HW;replace zh:Hid (∀L' W,HY w0 p pf nm (u+1) q g c ((gb,o)::(bx,bH what key n Av b.length cv)::fs) ds m' m L' W→Calls _ _ _ W λe w'=>e= .returned (.string ⟨st.toArray⟩)∧HY w0 p pf nm (u+1) q g c ((gb,o)::(bx,bH what key n Av b.length cv)::fs) ds m' m' L' w'):=zh;have hrc:r.length≤cb:=Ah.out.1;go_upto_region 33 with fail;have Oq:=ae (HH.out.below ((ak _ w1).drew));have Ci:=ae (HBT.out.step (Step.aI ((ak w1.heap.size w1).drew)));refine aD 10 (.rd 0 (.rd 1 (.rd 2 (.rd 3 (.rd 5 (.rd 6 (.rd 7 (.rd 8 (.rd 9 (.wr 4 .fin)))))))))) (λw'=>By w' bF (some ⟨gb,0,none⟩) jn rt) (by kernel_rfl) (by kernel_rfl) (λc a d v w h=>by cases d<;>exact h) Ci.out ?_;clear hcb;generalize w1.drew=V at Oq Ci⊢;repeat
  refine az (v:= ?_) (by rfl) (by rfl) (λw' hS=> ?_) (λK hK=> ?_);rotate_left
  ·have hcv:=bu (c:=cb) hS;clear hS;go_simp;try with_reducible rfl
  go_simp;refine hK _ ?_;clear hK K
 refine wpPm_write (by rfl) (λK hK=> ?_);go_simp;refine(HW.out _ Oq.out).mono ?_;rintro e w2 ⟨rfl,L',hL,h2⟩;have HL:=ae hL;have HM:=ae (zh.out _ _ h2);have br:=ae (Wp.out _ (h2.get af));refine hK.out _ _ (λw'=>By w' bF (some ⟨gb,0,none⟩) jn rt) (λ_ h=>h) br.out ?_;clear hK K h2 hL HW zh Oq;show wpList _ _ _ _ _ _;go_wp2_with fail;refine HM.out.mono ?_;rintro e w3 ⟨rfl,h3⟩;have H3:=ae (vL.out _ _ ⟨L',HL.out,h3⟩);clear h3 HM vL;go_wp2;go_ret;exact⟨rfl,by rw[HRT.out,hE];exact H3.out⟩
end
end Go.Proofs.YtipljcmmokaokaaGreat
