import Derived.Test.YtipljcmmokaokaaGreatQM33
set_option linter.unusedVariables false
set_option linter.unusedSimpArgs false
set_option maxHeartbeats 40000000
namespace Go.Proofs.YtipljcmmokaokaaGreat
open Go.RowKit Go.Lib Go.Maps Go.WideMaps Go.Sort
set_option maxRecDepth 100000
def zx (w:World) (pf:Nat) (W:World) (v:Value) (l:J.B):Prop:=bT W (· <w.heap.size) v l∧w.grownBy W (some pf)
theorem oL {w w':World} {r:Option Nat} (hb:Below w.heap.size w w'):w.grownBy w' r:=⟨hb.os,hb.tape,hb.output,hb.size,λk hk _=>hb.block k hk⟩
theorem oM {w w1 w2:World} {r:Option Nat} (h1:w.grownBy w1 r) (h2:w1.grownBy w2 r):w.grownBy w2 r:=
 ⟨h2.os.trans h1.os,h2.tape.trans h1.tape,h2.output.trans h1.output,aw h1.size h2.size,λk hk hn=>(h2.block k (av hk h1.size) hn).trans (h1.block k hk hn)⟩
theorem zx.bl {w W W':World} {pf:Nat} {v:Value} {l:J.B} (h:zx w pf W v l) (hb:Below W.heap.size W W'):zx w pf W' v l:=⟨h.1.step (Step.aI hb),oM h.2 (oL hb)⟩
section
variable {w0 : World} {p pf g c size ct u : Nat} {nm : J.B} {ks : List X.Ky} {rows : List X.Row} {f : Fv} {w w' : World} {s s1 s2 : J.St} {fs : List (Nat × Obj)} {ok : Obj}
theorem BX (h:At w0 p ((pf,ax p nm size g ks.length c f)::fs) s w) (hf:∀x∈fs,x.1≠pf) (bC:(g,ok)∈fs) (hO:bJ ok ks) (ht:J.Two s) (hX:XF nm size ks rows ct s.now) (hkey:f.key<ks.length) (r:X.Row) (hr:r∈rows):
  Calls Tryz.prog 67 #[.pointer (some ⟨pf,0,none⟩), .string ⟨(X.aN nm ks f.key r).toArray⟩] w λe w'=>∃v,e= .returned (.tuple #[v, .string ⟨(gQ ks rows f.key r).toArray⟩])∧zx w pf w' v r.b∧At w0 p ((pf,ax p nm size g ks.length c {f with at_:=X.aN nm ks f.key r,same:=false,lost:=false,last:=X.val ks 0 r.b,read:=true})::fs) s w':=by
 have h0:=h.get af;have h0:w.heap[pf]? =some (ax p nm size g ks.length c f):=h0;have hlt:=(ai h0).1;have hR:=λw1 (hb:Below w.heap.size w w1)=>pF (h.below hb) hX hkey hr (some ⟨g,0,none⟩) ks.length c;have hP:=λW=>bL nm size (some ⟨g,0,none⟩) ks.length c f.key (by have:=hX.ks.one;omega) (by have:=hX.nm;omega) W;have xY:=λw1 t (hh:At w0 p ((pf,ax p nm size g ks.length c {f with at_:=X.aN nm ks f.key r,same:=false,lost:=false,last:=X.val ks 0 r.b,read:=true})::fs) s w1)=>iA hh ⟨(X.pre nm f.key).toArray⟩ (X.aN nm ks f.key r) t (by have:=hX.many;omega);have xZ:=λw1 (hh:At w0 p ((pf,ax p nm size g ks.length c {f with at_:=X.aN nm ks f.key r,same:=false,lost:=false,last:=X.val ks 0 r.b,read:=true})::fs) s w1)=>xY w1 false hh;rw[hX.con.wO hX.ks hX.rows (by have:=hX.ct;omega) hkey hr]at xZ;have hV:=λx (hx:x∈rows) w1 (hk:dB w1 g ks)=>ke (c:=c) hX hkey hx w1 hk;have WU:=hV r hr;have hK:=λw1 (hh:At w0 p ((pf,ax p nm size g ks.length c {f with at_:=X.aN nm ks f.key r,same:=false,lost:=false,last:=X.val ks 0 r.b,read:=true})::fs) s w1)=>hO.2 w1 g (hh.get (ag _ bC));have hF:=λw1 w2 (hh:At w0 p ((pf,ax p nm size g ks.length c f)::fs) s w1) (hg:w1.grownBy w2 (some pf)) (hq:w2.heap[pf]? =some (ax p nm size g ks.length c {f with at_:=X.aN nm ks f.key r,same:=false,lost:=false,last:=X.val ks 0 r.b,read:=true}))=>cz hh hf ht hg hq;have hM:∀x,(X.bQ ks f.key rows).find? (X.nk ks f.key r ·)=some x→x∈rows:=λx hx=>(X.bt ks f.key x rows).1 (X.cL hx).1;obtain⟨f2,hf2⟩:∃f2:Fv,f2={f with at_:=X.aN nm ks f.key r,same:=false,lost:=false,last:=X.val ks 0 r.b,read:=true}:=⟨_,rfl⟩;have hk2:f2.key=f.key:=by rw[hf2]
 rw[←hf2]at xZ hK hF⊢;have AQ:=ae hf2;have HR:=ae hR;have HP:=ae hP;have wZ:=ae xZ;have HV:=ae hV;have TP:=ae WU;have HK:=ae hK;have HF:=ae hF;have HM:=ae hM;have aW:=ae hlt;have H0:=ae h0;have qI:gQ ks rows f.key r=if 0<f.key∧moreB ks rows f.key r=true then [48,50]else [48,48]:=rfl;unfold moreB at qI;have sX:=ae qI;generalize gQ ks rows f.key r=ts at sX⊢;generalize(⟨(X.pre nm f.key).toArray⟩:ByteArray)=P at HP wZ;clear h hf bC hO ht hX hkey hR hP xY xZ hV WU hK hF hM qI hf2 hr;go_enter Tryz.func67,Tryz.ntmps67;go_upto_region 1 with fail;refine aD 18 (.rd 0 (.rd 1 (.rd 2 (.rd 3 (.rd 4 (.rd 5 (.rd 6 (.rd 7 (.rd 8 (.rd 9 (.rd 10 (.rd 11 (.rd 12 (.wr 13 (.rd 14 (.rd 15 (.rd 16 (.wr 17 .fin)))))))))))))))))) (λw'=>w'.heap[pf]? =some (ax p nm size g ks.length c f)) (by kernel_rfl) (by kernel_rfl) (λc a d v w h=>by cases d<;>exact h) h0 ?_;repeat
  refine az (v:= ?_) (by rfl) (by rfl) (λw' hS=> ?_) (λK hK=> ?_);rotate_left
  ·have hc:=aj w' pf hS;clear hS;go_simp;try with_reducible rfl
  go_simp;refine hK _ ?_;clear hK K
 clear h0;refine wpPm_write (by rfl) (λK hK=> ?_);go_simp;refine(HR.out _ ((ak _ w).drew)).mono ?_;rintro e w1 ⟨v,rfl,hs,ha,hb⟩;have zl:Below w.heap.size w w1:=((ak _ w).drew).trans hb;have h1:w1.heap[pf]? =some (ax p nm size g ks.length c f):=ha.get af;refine hK.out _ _ (λw'=>w'.heap[pf]? =some (ax p nm size g ks.length c f)) (λ_ h=>h) (ha.get af) ?_;clear hK K;repeat
  refine az (v:= ?_) (by rfl) (by rfl) (λw' hS=> ?_) (λK hK=> ?_);rotate_left
  ·have hc:=aj w' pf hS;clear hS;go_simp;try with_reducible rfl
  go_simp;refine hK _ ?_;clear hK K
 refine wpPm_write (by rfl) (λK hK=> ?_);go_simp;refine hK.out _ _ (λw'=>w'.heap[pf]? =some (ax p nm size g ks.length c f)) (λ_ h=>h) h1 ?_;clear hK K;have hs:bT w1 (· <w.heap.size) v r.b:=hs;have hz:=aC h1;have hc:=aj w1 pf h1;have vO:=aA (aA (aA (aA (aA (World.grownBy.refl w1 (some pf)) 7 (.string ⟨(X.aN nm ks f.key r).toArray⟩)) 8 (.bool false)) 9 (.bool false)) 10 (.string ⟨(X.val ks 0 r.b).toArray⟩)) 11 (.bool true);have Dt:=aB (aB (aB (aB (aB h1 7 (.string ⟨(X.aN nm ks f.key r).toArray⟩)) 8 (.bool false)) 9 (.bool false)) 10 (.string ⟨(X.val ks 0 r.b).toArray⟩)) 11 (.bool true);have eI:=ae (HF.out _ _ ha vO (by rw[AQ.out];exact Dt));have zN:Hid (zx w pf _ v r.b):=ae ⟨(hs.step (Step.cC vO (λk e _=>by injection e with e;subst e;exact aW.out):Step _ (· <w.heap.size) _ _)),oM (oL zl) vO⟩;clear vO Dt hs ha hb HR HF;show wpList _ _ _ _ _ _;go_wp2_with fail;clear h1 hz hc;refine aM (λW5=>At w0 p ((pf,ax p nm size g ks.length c f2)::fs) s W5∧zx w pf W5 v r.b) ⟨eI.out,zN.out⟩ ?_;rintro W5 ⟨vW,hs5⟩;have h5:W5.heap[pf]? =some (ax p nm size g ks.length c f2):=vW.get af;have HA:=ae vW;have HS:=ae hs5;clear eI zN vW hs5;refine aD 8 (.rd 0 (.rd 1 (.rd 2 (.rd 3 (.rd 4 (.rd 5 (.rd 6 (.rd 7 .fin)))))))) (λw'=>w'.heap[pf]? =some (ax p nm size g ks.length c f2)) (by kernel_rfl) (by kernel_rfl) (λc a d v w h=>by cases d<;>exact h) h5 ?_;repeat
  refine az (v:= ?_) (by rfl) (by rfl) (λw' hS=> ?_) (λK hK=> ?_);rotate_left
  ·have hc:=aj w' pf hS;rw[hk2]at hc;clear hS;go_simp;try with_reducible rfl
  go_simp;refine hK _ ?_;clear hK K
 show wpList _ _ _ _ _ _;go_wp2_with fail;refine(HP.out _).mono ?_;rintro e W6 ⟨rfl,hb⟩;have hb:Below W5.heap.size W5 W6:=((ak _ W5).drew).trans hb;have dC:=ae (HA.out.below hb);have WW:=ae (HS.out.bl hb);have hc:=aj W6 pf (dC.out.get af);clear hb HP HA HS h5;go_wp2_with fail;refine(wZ.out _ dC.out).mono ?_;rintro e W7 ⟨rfl,hb⟩;have cQ:=ae (dC.out.below hb);have po:=ae (WW.out.bl hb);clear hb hc wZ dC WW;by_cases ej:f.key=0
 ·have fP:¬(0:Int)<(f.key:Nat):=(by omega);have qI:ts=[48,48]:=(by rw[sX.out,if_neg (by omega)]);subst qI;clear sX;generalize((List.find? (λx=>X.nk ks f.key r x) (X.bQ ks f.key rows)).map (X.aN nm ks f.key))=mo;go_wp2_with fail;refine aK (.rd 0 (.rd 1 (.rd 2 (.rd 3 (.rd 4 (.rd 5 (.rd 6 (.rd 7 (.rd 8 (.rd 9 (.rd 10 (.rd 11 (.rd 12 (.rd 13 (.rd 14 (.rd 15 (.rd 16 (.rd 17 (.rd 19 (.rd 20 (.rd 21 (.rd 22 (.rd 23 (.rd 24 (.rd 25 (.rd 26 (.rd 27 (.wr 18 (.wr 28 (.rd 29 (.rd 30 .fin))))))))))))))))))))))))))))))) (λw'=>At w0 p ((pf,ax p nm size g ks.length c f2)::fs) s w'∧zx w pf w' v r.b) (by kernel_rfl) (by kernel_rfl) (λc a d v w h=>by cases d<;>exact h) ⟨cQ.out.below ((ak _ _).drew),po.out.bl ((ak _ _).drew)⟩ ?_;repeat
   first
   |refine az (v:= ?_) (by rfl) (by rfl) (λw' hS=> ?_) (λK hK=> ?_)
    rotate_left
    ·have hc:=aj w' pf (hS.1.get af);rw[hk2]at hc;clear hS;go_simp;try with_reducible rfl
    go_simp;refine hK _ ?_;clear hK K
   |refine ay (by rfl) (by rfl) (λK hK=> ?_)
    go_simp;refine hK _ ?_;clear hK K
  refine wpPm_write (by rfl) (λK hK=> ?_);go_simp;refine hK.out _ _ (λw'=>At w0 p ((pf,ax p nm size g ks.length c f2)::fs) s w'∧zx w pf w' v r.b) (λ_ h=>h) ⟨cQ.out.below ((ak _ _).drew),po.out.bl ((ak _ _).drew)⟩ ?_;clear hK K;refine wpPm_write (by rfl) (λK hK=> ?_);go_simp;refine hK.out _ _ (λw'=>At w0 p ((pf,ax p nm size g ks.length c f2)::fs) s w'∧zx w pf w' v r.b) (λ_ h=>h) ⟨cQ.out.below ((ak _ _).drew),po.out.bl ((ak _ _).drew)⟩ ?_;clear hK K;repeat
   first
   |refine az (v:= ?_) (by rfl) (by rfl) (λw' hS=> ?_) (λK hK=> ?_)
    rotate_left
    ·have hc:=aj w' pf (hS.1.get af);rw[hk2]at hc;clear hS;go_simp;try with_reducible rfl
    go_simp;refine hK _ ?_;clear hK K
   |refine ay (by rfl) (by rfl) (λK hK=> ?_)
    go_simp;refine hK _ ?_;clear hK K
  show wpList _ _ _ _ _ _;go_wp2;go_ret2;exact⟨_,rfl,po.out.bl ((ak _ _).drew),cQ.out.below ((ak _ _).drew)⟩
 ·have fP:(0:Int)<(f.key:Nat):=(by omega);have hk3:0<f.key:=(by omega);cases LD:(X.bQ ks f.key rows).find? (X.nk ks f.key r ·)with
  |none=>
   rw[LD]at sX;have qI:ts=[48,48]:=(by rw[sX.out,if_neg (λh=>by cases h.2)]);subst qI;clear sX LD;go_wp2_with fail;refine aK (.rd 0 (.rd 1 (.rd 2 (.rd 3 (.rd 4 (.rd 5 (.rd 6 (.rd 7 (.rd 8 (.rd 9 (.rd 10 (.rd 11 (.rd 12 (.rd 13 (.rd 14 (.rd 15 (.rd 16 (.rd 17 (.rd 19 (.rd 20 (.rd 21 (.rd 22 (.rd 23 (.rd 24 (.rd 25 (.rd 26 (.rd 27 (.wr 18 (.wr 28 (.rd 29 (.rd 30 .fin))))))))))))))))))))))))))))))) (λw'=>At w0 p ((pf,ax p nm size g ks.length c f2)::fs) s w'∧zx w pf w' v r.b) (by kernel_rfl) (by kernel_rfl) (λc a d v w h=>by cases d<;>exact h) ⟨cQ.out.below ((ak _ _).drew),po.out.bl ((ak _ _).drew)⟩ ?_;repeat
    first
    |refine az (v:= ?_) (by rfl) (by rfl) (λw' hS=> ?_) (λK hK=> ?_)
     rotate_left
     ·have hc:=aj w' pf (hS.1.get af);rw[hk2]at hc;clear hS;go_simp;try with_reducible rfl
     go_simp;refine hK _ ?_;clear hK K
    |refine ay (by rfl) (by rfl) (λK hK=> ?_)
     go_simp;refine hK _ ?_;clear hK K
   refine wpPm_write (by rfl) (λK hK=> ?_);go_simp;refine hK.out _ _ (λw'=>At w0 p ((pf,ax p nm size g ks.length c f2)::fs) s w'∧zx w pf w' v r.b) (λ_ h=>h) ⟨cQ.out.below ((ak _ _).drew),po.out.bl ((ak _ _).drew)⟩ ?_;clear hK K;refine wpPm_write (by rfl) (λK hK=> ?_);go_simp;refine hK.out _ _ (λw'=>At w0 p ((pf,ax p nm size g ks.length c f2)::fs) s w'∧zx w pf w' v r.b) (λ_ h=>h) ⟨cQ.out.below ((ak _ _).drew),po.out.bl ((ak _ _).drew)⟩ ?_;clear hK K;repeat
    first
    |refine az (v:= ?_) (by rfl) (by rfl) (λw' hS=> ?_) (λK hK=> ?_)
     rotate_left
     ·have hc:=aj w' pf (hS.1.get af);rw[hk2]at hc;clear hS;go_simp;try with_reducible rfl
     go_simp;refine hK _ ?_;clear hK K
    |refine ay (by rfl) (by rfl) (λK hK=> ?_)
     go_simp;refine hK _ ?_;clear hK K
   show wpList _ _ _ _ _ _;go_wp2;go_ret2;exact⟨_,rfl,po.out.bl ((ak _ _).drew),cQ.out.below ((ak _ _).drew)⟩
  |some x=>
   rw[LD]at sX;have hx:=HM.out x LD;have Pw:=ae (HV.out x hx);have qI:ts=if X.val ks f.key x.b=X.val ks f.key r.b then [48,50]else [48,48]:=by
    rw[sX.out];by_cases e:X.val ks f.key x.b=X.val ks f.key r.b
    ·rw[if_pos ⟨by omega,decide_eq_true e⟩,if_pos e]
    ·rw[if_neg (λh=>e (of_decide_eq_true h.2)),if_neg e]
   have js:=df (X.val ks f.key x.b) (X.val ks f.key r.b);have uI:=ae qI;clear sX LD hx qI HV HM;generalize(⟨(X.val ks f.key x.b).toArray⟩:ByteArray)=vx at js Pw;generalize hvr:(⟨(X.val ks f.key r.b).toArray⟩:ByteArray)=vr at js TP;clear hvr;by_cases Hf:X.val ks f.key x.b=X.val ks f.key r.b
   ·rw[decide_eq_true Hf]at js;have qI:ts=[48,50]:=(by rw[uI.out,if_pos Hf]);subst qI;clear uI Hf;go_wp2_with fail;refine aK (.rd 0 (.rd 1 (.rd 2 (.rd 3 (.rd 4 (.rd 5 (.rd 6 (.rd 7 (.rd 8 (.rd 9 (.rd 10 (.rd 11 (.rd 12 (.rd 13 (.rd 14 (.rd 15 (.rd 16 (.rd 17 (.rd 19 (.rd 20 (.rd 21 (.rd 22 (.rd 23 (.rd 24 (.rd 25 (.rd 26 (.rd 27 (.wr 18 (.wr 28 (.rd 29 (.rd 30 .fin))))))))))))))))))))))))))))))) (λw'=>At w0 p ((pf,ax p nm size g ks.length c f2)::fs) s w'∧zx w pf w' v r.b) (by kernel_rfl) (by kernel_rfl) (λc a d v w h=>by cases d<;>exact h) ⟨cQ.out.below ((ak _ _).drew),po.out.bl ((ak _ _).drew)⟩ ?_;repeat
     first
     |refine az (v:= ?_) (by rfl) (by rfl) (λw' hS=> ?_) (λK hK=> ?_)
      rotate_left
      ·have hc:=aj w' pf (hS.1.get af);rw[hk2]at hc;clear hS;go_simp;try with_reducible rfl
      go_simp;refine hK _ ?_;clear hK K
     |refine ay (by rfl) (by rfl) (λK hK=> ?_)
      go_simp;refine hK _ ?_;clear hK K
    refine wpPm_write (by rfl) (λK hK=> ?_);go_simp;refine(Pw.out _ (HK.out _ (cQ.out.below ((ak _ _).drew)))).mono ?_;rintro e W8 ⟨rfl,hb⟩;have hb:Below W7.heap.size W7 W8:=((ak _ W7).drew).trans hb;have ig:=ae (cQ.out.below hb);have Hg:=ae (po.out.bl hb);refine hK.out _ _ (λw'=>At w0 p ((pf,ax p nm size g ks.length c f2)::fs) s w'∧zx w pf w' v r.b) (λ_ h=>h) ⟨ig.out,Hg.out⟩ ?_;clear hK K hb;refine wpPm_write (by rfl) (λK hK=> ?_);go_simp;refine(TP.out _ (HK.out _ ig.out)).mono ?_;rintro e W9 ⟨rfl,hb⟩;have iD:=ae (ig.out.below hb);have Hh:=ae (Hg.out.bl hb);refine hK.out _ _ (λw'=>At w0 p ((pf,ax p nm size g ks.length c f2)::fs) s w'∧zx w pf w' v r.b) (λ_ h=>h) ⟨iD.out,Hh.out⟩ ?_;clear hK K hb;repeat
     first
     |refine az (v:= ?_) (by rfl) (by rfl) (λw' hS=> ?_) (λK hK=> ?_)
      rotate_left
      ·have hc:=aj w' pf (hS.1.get af);rw[hk2]at hc;clear hS;go_simp;try with_reducible rfl
      go_simp;refine hK _ ?_;clear hK K
     |refine ay (by rfl) (by rfl) (λK hK=> ?_)
      go_simp;refine hK _ ?_;clear hK K
    show wpList _ _ _ _ _ _;go_wp2;go_ret2;exact⟨_,rfl,Hh.out,iD.out⟩
   ·rw[decide_eq_false Hf]at js;have qI:ts=[48,48]:=(by rw[uI.out,if_neg Hf]);subst qI;clear uI Hf;go_wp2_with fail;refine aK (.rd 0 (.rd 1 (.rd 2 (.rd 3 (.rd 4 (.rd 5 (.rd 6 (.rd 7 (.rd 8 (.rd 9 (.rd 10 (.rd 11 (.rd 12 (.rd 13 (.rd 14 (.rd 15 (.rd 16 (.rd 17 (.rd 19 (.rd 20 (.rd 21 (.rd 22 (.rd 23 (.rd 24 (.rd 25 (.rd 26 (.rd 27 (.wr 18 (.wr 28 (.rd 29 (.rd 30 .fin))))))))))))))))))))))))))))))) (λw'=>At w0 p ((pf,ax p nm size g ks.length c f2)::fs) s w'∧zx w pf w' v r.b) (by kernel_rfl) (by kernel_rfl) (λc a d v w h=>by cases d<;>exact h) ⟨cQ.out.below ((ak _ _).drew),po.out.bl ((ak _ _).drew)⟩ ?_;repeat
     first
     |refine az (v:= ?_) (by rfl) (by rfl) (λw' hS=> ?_) (λK hK=> ?_)
      rotate_left
      ·have hc:=aj w' pf (hS.1.get af);rw[hk2]at hc;clear hS;go_simp;try with_reducible rfl
      go_simp;refine hK _ ?_;clear hK K
     |refine ay (by rfl) (by rfl) (λK hK=> ?_)
      go_simp;refine hK _ ?_;clear hK K
    refine wpPm_write (by rfl) (λK hK=> ?_);go_simp;refine(Pw.out _ (HK.out _ (cQ.out.below ((ak _ _).drew)))).mono ?_;rintro e W8 ⟨rfl,hb⟩;have hb:Below W7.heap.size W7 W8:=((ak _ W7).drew).trans hb;have ig:=ae (cQ.out.below hb);have Hg:=ae (po.out.bl hb);refine hK.out _ _ (λw'=>At w0 p ((pf,ax p nm size g ks.length c f2)::fs) s w'∧zx w pf w' v r.b) (λ_ h=>h) ⟨ig.out,Hg.out⟩ ?_;clear hK K hb;refine wpPm_write (by rfl) (λK hK=> ?_);go_simp;refine(TP.out _ (HK.out _ ig.out)).mono ?_;rintro e W9 ⟨rfl,hb⟩;have iD:=ae (ig.out.below hb);have Hh:=ae (Hg.out.bl hb);refine hK.out _ _ (λw'=>At w0 p ((pf,ax p nm size g ks.length c f2)::fs) s w'∧zx w pf w' v r.b) (λ_ h=>h) ⟨iD.out,Hh.out⟩ ?_;clear hK K hb;repeat
     first
     |refine az (v:= ?_) (by rfl) (by rfl) (λw' hS=> ?_) (λK hK=> ?_)
      rotate_left
      ·have hc:=aj w' pf (hS.1.get af);rw[hk2]at hc;clear hS;go_simp;try with_reducible rfl
      go_simp;refine hK _ ?_;clear hK K
     |refine ay (by rfl) (by rfl) (λK hK=> ?_)
      go_simp;refine hK _ ?_;clear hK K
    show wpList _ _ _ _ _ _;go_wp2;go_ret2;exact⟨_,rfl,Hh.out,iD.out⟩
theorem Ny:(∀{w0:World} {p pf g c size ct:Nat} {nm:J.B} {ks:List X.Ky} {rows:List X.Row} {f:Fv} {w:World} {s:J.St} {fs:List (Nat×Obj)} {ok:Obj} (h:At w0 p ((pf,ax p nm size g ks.length c f)::fs) s w) (hf:∀x∈fs,x.1≠pf) (bC:(g,ok)∈fs) (hO:bJ ok ks) (ht:J.Two s) (hX:XF nm size ks rows ct s.now) (hs:X.bM [52,55] [1,3] f.mode=[48,48]) (hl:f.lost=false) (hkey:f.key<ks.length) (r:X.Row) (hr:r∈rows) (hp:afterOf s.now ⟨(X.pre nm f.key).toArray⟩ f.at_ f.same=some (X.aN nm ks f.key r)),Calls Tryz.prog 20 #[.pointer (some ⟨pf,0,none⟩)] w λe w'=>∃v,e= .returned (.tuple #[v, .string ⟨(gQ ks rows f.key r).toArray⟩])∧bT w' (· <w.heap.size) v r.b∧At w0 p ((pf,ax p nm size g ks.length c {f with at_:=X.aN nm ks f.key r,same:=false,lost:=false,last:=X.val ks 0 r.b,read:=true})::fs) s w'∧w.grownBy w' (some pf))∧(∀{w0:World} {p pf g c size ct:Nat} {nm:J.B} {ks:List X.Ky} {rows:List X.Row} {f:Fv} {w:World} {s:J.St} {fs:List (Nat×Obj)} {ok:Obj} (h:At w0 p ((pf,ax p nm size g ks.length c f)::fs) s w) (hf:∀x∈fs,x.1≠pf) (bC:(g,ok)∈fs) (hO:bJ ok ks) (ht:J.Two s) (hX:XF nm size ks rows ct s.now) (hs:X.bM [52,55] [1,3] f.mode=[48,48]) (hl:f.lost=false) (hkey:f.key<ks.length) (hp:afterOf s.now ⟨(X.pre nm f.key).toArray⟩ f.at_ f.same=none),Calls Tryz.prog 20 #[.pointer (some ⟨pf,0,none⟩)] w λe w'=>e= .returned (.tuple #[.slice none 0 0, .string ⟨#[49,48]⟩])∧At w0 p ((pf,ax p nm size g ks.length c {f with at_:=[],same:=false,lost:=true,read:=false})::fs) s w'∧w.grownBy w' (some pf)):=by
 refine⟨?z0, ?z1⟩
 case' z0=>intro w0 p pf g c size ct nm ks rows f w s fs ok h hf bC hO ht hX hs hl hkey r hr hp
 case' z1=>(intro w0 p pf g c size ct nm ks rows f w s fs ok h hf bC hO ht hX hs hl hkey hp;have aH:=trivial)
 all_goals
  have hlt:=(ai (h.get af)).1;have hlt:pf<w.heap.size:=hlt;have dD:=ae (bG (h.get af) [52,55] [1,3] 2 #[.int .u8 1, .int .u8 3] rfl rfl (by decide) w.heap.size rfl);rw[hs]at dD;have HA:=ae (h.below ((ak _ w).alloc (aq _) (.cells #[.int .u8 1, .int .u8 3] 32)));have hP:=λW=>bL nm size (some ⟨g,0,none⟩) ks.length c f.key (by have:=hX.ks.one;omega) (by have:=hX.nm;omega) W;have xY:=λw1 (hh:At w0 p ((pf,ax p nm size g ks.length c f)::fs) s w1)=>iA hh ⟨(X.pre nm f.key).toArray⟩ f.at_ f.same (by have:=hX.many;omega);rw[hp]at xY;have HP:=ae hP;have wZ:=ae xY;first
   |have aH:=aH
    have HF:=ae (λw1 (hh:At w0 p ((pf,ax p nm size g ks.length c f)::fs) s w1) w2 (hg:w1.grownBy w2 (some pf)) (hr:w2.heap[pf]? =some (ax p nm size g ks.length c {f with at_:=[],same:=false,lost:=true,read:=false}))=>cz hh hf ht hg hr)
    skip
   |have tC:=ae (λw1 (hh:At w0 p ((pf,ax p nm size g ks.length c f)::fs) s w1)=>BX hh hf bC hO ht hX hkey r hr)
    generalize gQ ks rows f.key r=st at tC⊢
  generalize(⟨(X.pre nm f.key).toArray⟩:ByteArray)=P at HP wZ;first
   |have aH:=aH
    clear hP xY hp hf bC hO ht hX hkey
   |clear hP xY hp hf bC hO ht hX hkey hr
  clear h hs;go_enter Tryz.func20,Tryz.ntmps20;go_wp2_with fail;refine dD.out.mono ?_;rintro e W1 ⟨rfl,hW1⟩;subst hW1;clear dD;refine aM (λX=>At w0 p ((pf,ax p nm size g ks.length c f)::fs) s X∧Below w.heap.size w X) ⟨HA.out,(ak _ w).alloc (aq _) _⟩ ?_;rintro W ⟨ha,sH⟩;clear HA;have hc:=aj W pf (ha.get (af:(pf,ax p nm size g ks.length c f)∈(pf,ax p nm size g ks.length c f)::fs));rw[hl]at hc;go_wp2_with fail;clear hc;refine aD 28 (.rd 0 (.rd 1 (.rd 2 (.rd 3 (.rd 4 (.rd 5 (.rd 6 (.rd 7 (.rd 8 (.rd 9 (.rd 10 (.rd 11 (.rd 13 (.rd 14 (.rd 15 (.rd 16 (.rd 17 (.rd 18 (.rd 19 (.rd 20 (.rd 21 (.rd 22 (.wr 12 (.wr 23 (.rd 24 (.rd 25 (.rd 26 (.wr 27 .fin)))))))))))))))))))))))))))) (λw'=>At w0 p ((pf,ax p nm size g ks.length c f)::fs) s w') (by kernel_rfl) (by kernel_rfl) (λc a d v w h=>by cases d<;>exact h) (ha.below ((ak _ _).drew)) ?_;repeat
   refine az (v:= ?_) (by rfl) (by rfl) (λw' hS=> ?_) (λK hK=> ?_);rotate_left
   ·have hc:=aj w' pf (hS.get (af:(pf,ax p nm size g ks.length c f)∈(pf,ax p nm size g ks.length c f)::fs));rw[hl]at hc;clear hS;go_simp;try with_reducible rfl
   go_simp;refine hK _ ?_;clear hK K
  refine wpPm_write (by rfl) (λK hK=> ?_);go_simp;refine(HP.out _).mono ?_;rintro e W2 ⟨rfl,hb⟩;have fE:=ae (ha.below (((ak _ W).drew).trans hb));have br:=ae (sH.trans ((((ak _ W).drew).trans hb).mono sH.size));refine hK.out _ _ (λw'=>At w0 p ((pf,ax p nm size g ks.length c f)::fs) s w') (λ_ h=>h) fE.out ?_;clear hK K;clear hb;refine wpPm_write (by rfl) (λK hK=> ?_);go_simp;refine(wZ.out _ fE.out).mono ?_;rintro e W3 ⟨rfl,hb⟩;have cU:=ae (fE.out.below hb);have cX:=ae (br.out.trans (hb.mono br.out.size));refine hK.out _ _ (λw'=>At w0 p ((pf,ax p nm size g ks.length c f)::fs) s w') (λ_ h=>h) cU.out ?_;clear hK K;clear hb;repeat
   refine az (v:= ?_) (by rfl) (by rfl) (λw' hS=> ?_) (λK hK=> ?_);rotate_left
   ·have hc:=aj w' pf (hS.get (af:(pf,ax p nm size g ks.length c f)∈(pf,ax p nm size g ks.length c f)::fs));rw[hl]at hc;clear hS;go_simp;try with_reducible rfl
   go_simp;refine hK _ ?_;clear hK K
  refine wpPm_write (by rfl) (λK hK=> ?_);go_simp;refine hK.out _ _ (λw'=>At w0 p ((pf,ax p nm size g ks.length c f)::fs) s w') (λ_ h=>h) cU.out ?_;clear hK K;show wpList _ _ _ _ _ _;go_wp2_with fail;first
   |have aH:=aH
    refine(lV (cU.out.get af)).mono ?_;rintro e W4 ⟨⟨_,rfl⟩,hg,hr⟩;have cZ:=ae (HF.out _ cU.out _ hg hr);have TD:=ae (oM (oL cX.out) hg);clear hg hr HF
   |refine(tC.out _ cU.out).mono ?_
    rintro e W4 ⟨v,rfl,Dk,ya⟩;have cZ:=ae ya;have TD:=ae (oM (oL cX.out) Dk.2);have HS4:=ae (Dk.1.weak (M':=(· <w.heap.size)) (λk hk=>av hk cX.out.size));clear Dk ya tC
  go_wp2;go_ret2;first
   |have aH:=aH
    exact⟨rfl,cZ.out,TD.out⟩
    skip
   |exact⟨_,rfl,HS4.out,cZ.out,TD.out⟩
abbrev BZ:= @Ny.1
abbrev Ca:= @Ny.2
end
end Go.Proofs.YtipljcmmokaokaaGreat
