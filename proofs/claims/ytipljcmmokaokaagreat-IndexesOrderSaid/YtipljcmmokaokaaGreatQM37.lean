import Derived.Test.YtipljcmmokaokaaGreatQM33
set_option linter.unusedVariables false
set_option linter.unusedSimpArgs false
set_option maxHeartbeats 2000000
namespace Go.Proofs.YtipljcmmokaokaaGreat
open Go.RowKit Go.Lib Go.Maps Go.WideMaps Go.Sort
set_option maxRecDepth 100000
def xY (w:World) (pf:Nat) (W:World) (v:Value) (l:J.B):Prop:=cE W (· <w.heap.size) v l∧w.grownBy W (some pf)
theorem oO {w w':World} {r:Option Nat} (hb:Below w.heap.size w w'):w.grownBy w' r:=⟨hb.os,hb.tape,hb.output,hb.size,fun k hk _=>hb.block k hk⟩
theorem oP {w w1 w2:World} {r:Option Nat} (h1:w.grownBy w1 r) (h2:w1.grownBy w2 r):w.grownBy w2 r:=
 ⟨h2.os.trans h1.os,h2.tape.trans h1.tape,h2.output.trans h1.output,au h1.size h2.size,fun k hk hn=>(h2.block k (aq hk h1.size) hn).trans (h1.block k hk hn)⟩
theorem xY.bl {w W W':World} {pf:Nat} {v:Value} {l:J.B} (h:xY w pf W v l) (hb:Below W.heap.size W W'):xY w pf W' v l:=⟨h.1.step (Step.aH hb),oP h.2 (oO hb)⟩
section
variable {w0 : World} {p pf g c size ct u : Nat} {nm : J.B} {ks : List X.Ky} {rows : List X.Row} {f : Fv} {w w' : World} {s s1 s2 : J.St} {fs : List (Nat × Obj)} {ok : Obj}
theorem zV (h:At w0 p ((pf,av p nm size g ks.length c f)::fs) s w) (hf:∀x∈fs,x.1≠pf) (bq:(g,ok)∈fs) (hO:bI ok ks) (ht:J.Two s) (hX:XF nm size ks rows ct s.now) (hkey:f.key<ks.length) (r:X.Row) (hr:r∈rows):
  Calls Tryz.prog 67 #[.pointer (some ⟨pf,0,none⟩), .string ⟨(X.aJ nm ks f.key r).toArray⟩] w fun e w'=>∃v,e= .returned (.tuple #[v, .string ⟨(kQ ks rows f.key r).toArray⟩])∧xY w pf w' v r.b∧At w0 p ((pf,av p nm size g ks.length c {f with at_:=X.aJ nm ks f.key r,same:=false,lost:=false,last:=X.val ks 0 r.b,read:=true})::fs) s w':=by
 have h0:=h.get ae;have h0:w.heap[pf]? =some (av p nm size g ks.length c f):=h0;have hlt:=(ah h0).1;have hR:=fun w1 (hb:Below w.heap.size w w1)=>uk (h.below hb) hX hkey hr (some ⟨g,0,none⟩) ks.length c;have hP:=fun W=>aZ nm size (some ⟨g,0,none⟩) ks.length c f.key (by have:=hX.ks.one;omega) (by have:=hX.nm;omega) W;have qs:=fun w1 t (hh:At w0 p ((pf,av p nm size g ks.length c {f with at_:=X.aJ nm ks f.key r,same:=false,lost:=false,last:=X.val ks 0 r.b,read:=true})::fs) s w1)=>iP hh ⟨(X.pre nm f.key).toArray⟩ (X.aJ nm ks f.key r) t (by have:=hX.many;omega);have xe:=fun w1 (hh:At w0 p ((pf,av p nm size g ks.length c {f with at_:=X.aJ nm ks f.key r,same:=false,lost:=false,last:=X.val ks 0 r.b,read:=true})::fs) s w1)=>qs w1 false hh;rw[hX.con.vT hX.ks hX.rows (by have:=hX.ct;omega) hkey hr]at xe;have hV:=fun x (hx:x∈rows) w1 (hk:eY w1 g ks)=>lO (c:=c) hX hkey hx w1 hk;have P1:=hV r hr;have hK:=fun w1 (hh:At w0 p ((pf,av p nm size g ks.length c {f with at_:=X.aJ nm ks f.key r,same:=false,lost:=false,last:=X.val ks 0 r.b,read:=true})::fs) s w1)=>hO.2 w1 g (hh.get (af _ bq));have hF:=fun w1 w2 (hh:At w0 p ((pf,av p nm size g ks.length c f)::fs) s w1) (hg:w1.grownBy w2 (some pf)) (hq:w2.heap[pf]? =some (av p nm size g ks.length c {f with at_:=X.aJ nm ks f.key r,same:=false,lost:=false,last:=X.val ks 0 r.b,read:=true}))=>bc hh hf ht hg hq;have hM:∀x,(X.bS ks f.key rows).find? (X.nC ks f.key r ·)=some x→x∈rows:=fun x hx=>(X.bm ks f.key x rows).1 (X.cR hx).1;obtain⟨f2,hf2⟩:∃f2:Fv,f2={f with at_:=X.aJ nm ks f.key r,same:=false,lost:=false,last:=X.val ks 0 r.b,read:=true}:=⟨_,rfl⟩;have hk2:f2.key=f.key:=by rw[hf2]
 rw[←hf2]at xe hK hF⊢;have rU:=aa hf2;have HR:=aa hR;have HP:=aa hP;have rq:=aa xe;have HV:=aa hV;have Nx:=aa P1;have HK:=aa hK;have HF:=aa hF;have HM:=aa hM;have a7:=aa hlt;have H0:=aa h0;have qu:kQ ks rows f.key r=if 0<f.key∧zb ks rows f.key r=true then [48,50]else [48,48]:=rfl;unfold zb at qu;have xg:=aa qu;generalize kQ ks rows f.key r=ts at xg⊢;generalize(⟨(X.pre nm f.key).toArray⟩:ByteArray)=P at HP rq;clear h hf bq hO ht hX hkey hR hP qs xe hV P1 hK hF hM qu hf2 hr;go_enter Tryz.func67,Tryz.ntmps67;go_upto_region 1 with fail;refine aA 18 (.rd 0 (.rd 1 (.rd 2 (.rd 3 (.rd 4 (.rd 5 (.rd 6 (.rd 7 (.rd 8 (.rd 9 (.rd 10 (.rd 11 (.rd 12 (.wr 13 (.rd 14 (.rd 15 (.rd 16 (.wr 17 .fin)))))))))))))))))) (fun w'=>w'.heap[pf]? =some (av p nm size g ks.length c f)) (by kernel_rfl) (by kernel_rfl) (fun c a d v w h=>by cases d<;>exact h) h0 ?_;repeat
  refine aw (v:= ?_) (by rfl) (by rfl) (fun w' hS=> ?_) (fun K hK=> ?_);rotate_left
  ·have hc:=fun j=>ag w' pf j _ _ _ hS;clear hS;go_simp;try with_reducible rfl
  go_simp;refine hK _ ?_;clear hK K
 clear h0;refine wpPm_write (by rfl) (fun K hK=> ?_);go_simp;refine(HR.out _ ((ai _ w).drew)).mono ?_;rintro e w1 ⟨v,rfl,hs,ha,hb⟩;have AQ:Below w.heap.size w w1:=((ai _ w).drew).trans hb;have h1:w1.heap[pf]? =some (av p nm size g ks.length c f):=ha.get ae;refine hK.out _ _ (fun w'=>w'.heap[pf]? =some (av p nm size g ks.length c f)) (fun _ h=>h) (ha.get ae) ?_;clear hK K;repeat
  refine aw (v:= ?_) (by rfl) (by rfl) (fun w' hS=> ?_) (fun K hK=> ?_);rotate_left
  ·have hc:=fun j=>ag w' pf j _ _ _ hS;clear hS;go_simp;try with_reducible rfl
  go_simp;refine hK _ ?_;clear hK K
 refine wpPm_write (by rfl) (fun K hK=> ?_);go_simp;refine hK.out _ _ (fun w'=>w'.heap[pf]? =some (av p nm size g ks.length c f)) (fun _ h=>h) h1 ?_;clear hK K;have hs:cE w1 (· <w.heap.size) v r.b:=hs;have hz:=az h1;have hc:=fun j=>ag w1 pf j _ _ _ h1;have sQ:=ay (ay (ay (ay (ay (World.grownBy.refl w1 (some pf)) 7 (.string ⟨(X.aJ nm ks f.key r).toArray⟩)) 8 (.bool false)) 9 (.bool false)) 10 (.string ⟨(X.val ks 0 r.b).toArray⟩)) 11 (.bool true);have Hc:=aC (aC (aC (aC (aC h1 7 (.string ⟨(X.aJ nm ks f.key r).toArray⟩)) 8 (.bool false)) 9 (.bool false)) 10 (.string ⟨(X.val ks 0 r.b).toArray⟩)) 11 (.bool true);have cI:=aa (HF.out _ _ ha sQ (by rw[rU.out];exact Hc));have sk:Hid (xY w pf _ v r.b):=aa ⟨(hs.step (Step.bY sQ (fun k e _=>by injection e with e;subst e;exact a7.out):Step _ (· <w.heap.size) _ _)),oP (oO AQ) sQ⟩;clear sQ Hc hs ha hb HR HF;show wpList _ _ _ _ _ _;go_wp2_with fail;clear h1 hz hc;refine aG (fun W5=>At w0 p ((pf,av p nm size g ks.length c f2)::fs) s W5∧xY w pf W5 v r.b) ⟨cI.out,sk.out⟩ ?_;rintro W5 ⟨pP,hs5⟩;have h5:W5.heap[pf]? =some (av p nm size g ks.length c f2):=pP.get ae;have HA:=aa pP;have HS:=aa hs5;clear cI sk pP hs5;refine aA 8 (.rd 0 (.rd 1 (.rd 2 (.rd 3 (.rd 4 (.rd 5 (.rd 6 (.rd 7 .fin)))))))) (fun w'=>w'.heap[pf]? =some (av p nm size g ks.length c f2)) (by kernel_rfl) (by kernel_rfl) (fun c a d v w h=>by cases d<;>exact h) h5 ?_;repeat
  refine aw (v:= ?_) (by rfl) (by rfl) (fun w' hS=> ?_) (fun K hK=> ?_);rotate_left
  ·have hc:=fun j=>ag w' pf j _ _ _ hS;rw[hk2]at hc;clear hS;go_simp;try with_reducible rfl
  go_simp;refine hK _ ?_;clear hK K
 show wpList _ _ _ _ _ _;go_wp2_with fail;refine(HP.out _).mono ?_;rintro e W6 ⟨rfl,hb⟩;have hb:Below W5.heap.size W5 W6:=((ai _ W5).drew).trans hb;have bK:=aa (HA.out.below hb);have P2:=aa (HS.out.bl hb);have hc:=fun j=>ag W6 pf j _ _ _ (bK.out.get ae);clear hb HP HA HS h5;go_wp2_with fail;refine(rq.out _ bK.out).mono ?_;rintro e W7 ⟨rfl,hb⟩;have bz:=aa (bK.out.below hb);have pj:=aa (P2.out.bl hb);clear hb hc rq bK P2;by_cases cQ:f.key=0
 ·have jB:¬(0:Int)<(f.key:Nat):=(by omega);have qu:ts=[48,48]:=(by rw[xg.out,if_neg (by omega)]);subst qu;clear xg;generalize((List.find? (fun x=>X.nC ks f.key r x) (X.bS ks f.key rows)).map (X.aJ nm ks f.key))=mo;go_wp2_with fail;refine aL (.rd 0 (.rd 1 (.rd 2 (.rd 3 (.rd 4 (.rd 5 (.rd 6 (.rd 7 (.rd 8 (.rd 9 (.rd 10 (.rd 11 (.rd 12 (.rd 13 (.rd 14 (.rd 15 (.rd 16 (.rd 17 (.rd 19 (.rd 20 (.rd 21 (.rd 22 (.rd 23 (.rd 24 (.rd 25 (.rd 26 (.rd 27 (.wr 18 (.wr 28 (.rd 29 (.rd 30 .fin))))))))))))))))))))))))))))))) (fun w'=>At w0 p ((pf,av p nm size g ks.length c f2)::fs) s w'∧xY w pf w' v r.b) (by kernel_rfl) (by kernel_rfl) (fun c a d v w h=>by cases d<;>exact h) ⟨bz.out.below ((ai _ _).drew),pj.out.bl ((ai _ _).drew)⟩ ?_;repeat
   first
   |refine aw (v:= ?_) (by rfl) (by rfl) (fun w' hS=> ?_) (fun K hK=> ?_)
    rotate_left
    ·have hc:=fun j=>ag w' pf j _ _ _ (hS.1.get ae);rw[hk2]at hc;clear hS;go_simp;try with_reducible rfl
    go_simp;refine hK _ ?_;clear hK K
   |refine ax (by rfl) (by rfl) (fun K hK=> ?_)
    go_simp;refine hK _ ?_;clear hK K
  refine wpPm_write (by rfl) (fun K hK=> ?_);go_simp;refine hK.out _ _ (fun w'=>At w0 p ((pf,av p nm size g ks.length c f2)::fs) s w'∧xY w pf w' v r.b) (fun _ h=>h) ⟨bz.out.below ((ai _ _).drew),pj.out.bl ((ai _ _).drew)⟩ ?_;clear hK K;refine wpPm_write (by rfl) (fun K hK=> ?_);go_simp;refine hK.out _ _ (fun w'=>At w0 p ((pf,av p nm size g ks.length c f2)::fs) s w'∧xY w pf w' v r.b) (fun _ h=>h) ⟨bz.out.below ((ai _ _).drew),pj.out.bl ((ai _ _).drew)⟩ ?_;clear hK K;repeat
   first
   |refine aw (v:= ?_) (by rfl) (by rfl) (fun w' hS=> ?_) (fun K hK=> ?_)
    rotate_left
    ·have hc:=fun j=>ag w' pf j _ _ _ (hS.1.get ae);rw[hk2]at hc;clear hS;go_simp;try with_reducible rfl
    go_simp;refine hK _ ?_;clear hK K
   |refine ax (by rfl) (by rfl) (fun K hK=> ?_)
    go_simp;refine hK _ ?_;clear hK K
  show wpList _ _ _ _ _ _;go_wp2;go_ret2;exact⟨_,rfl,pj.out.bl ((ai _ _).drew),bz.out.below ((ai _ _).drew)⟩
 ·have jB:(0:Int)<(f.key:Nat):=(by omega);have hk3:0<f.key:=(by omega);cases Hd:(X.bS ks f.key rows).find? (X.nC ks f.key r ·)with
  |none=>
   rw[Hd]at xg;have qu:ts=[48,48]:=(by rw[xg.out,if_neg (fun h=>by cases h.2)]);subst qu;clear xg Hd;go_wp2_with fail;refine aL (.rd 0 (.rd 1 (.rd 2 (.rd 3 (.rd 4 (.rd 5 (.rd 6 (.rd 7 (.rd 8 (.rd 9 (.rd 10 (.rd 11 (.rd 12 (.rd 13 (.rd 14 (.rd 15 (.rd 16 (.rd 17 (.rd 19 (.rd 20 (.rd 21 (.rd 22 (.rd 23 (.rd 24 (.rd 25 (.rd 26 (.rd 27 (.wr 18 (.wr 28 (.rd 29 (.rd 30 .fin))))))))))))))))))))))))))))))) (fun w'=>At w0 p ((pf,av p nm size g ks.length c f2)::fs) s w'∧xY w pf w' v r.b) (by kernel_rfl) (by kernel_rfl) (fun c a d v w h=>by cases d<;>exact h) ⟨bz.out.below ((ai _ _).drew),pj.out.bl ((ai _ _).drew)⟩ ?_;repeat
    first
    |refine aw (v:= ?_) (by rfl) (by rfl) (fun w' hS=> ?_) (fun K hK=> ?_)
     rotate_left
     ·have hc:=fun j=>ag w' pf j _ _ _ (hS.1.get ae);rw[hk2]at hc;clear hS;go_simp;try with_reducible rfl
     go_simp;refine hK _ ?_;clear hK K
    |refine ax (by rfl) (by rfl) (fun K hK=> ?_)
     go_simp;refine hK _ ?_;clear hK K
   refine wpPm_write (by rfl) (fun K hK=> ?_);go_simp;refine hK.out _ _ (fun w'=>At w0 p ((pf,av p nm size g ks.length c f2)::fs) s w'∧xY w pf w' v r.b) (fun _ h=>h) ⟨bz.out.below ((ai _ _).drew),pj.out.bl ((ai _ _).drew)⟩ ?_;clear hK K;refine wpPm_write (by rfl) (fun K hK=> ?_);go_simp;refine hK.out _ _ (fun w'=>At w0 p ((pf,av p nm size g ks.length c f2)::fs) s w'∧xY w pf w' v r.b) (fun _ h=>h) ⟨bz.out.below ((ai _ _).drew),pj.out.bl ((ai _ _).drew)⟩ ?_;clear hK K;repeat
    first
    |refine aw (v:= ?_) (by rfl) (by rfl) (fun w' hS=> ?_) (fun K hK=> ?_)
     rotate_left
     ·have hc:=fun j=>ag w' pf j _ _ _ (hS.1.get ae);rw[hk2]at hc;clear hS;go_simp;try with_reducible rfl
     go_simp;refine hK _ ?_;clear hK K
    |refine ax (by rfl) (by rfl) (fun K hK=> ?_)
     go_simp;refine hK _ ?_;clear hK K
   show wpList _ _ _ _ _ _;go_wp2;go_ret2;exact⟨_,rfl,pj.out.bl ((ai _ _).drew),bz.out.below ((ai _ _).drew)⟩
  |some x=>
   rw[Hd]at xg;have hx:=HM.out x Hd;have Km:=aa (HV.out x hx);have qu:ts=if X.val ks f.key x.b=X.val ks f.key r.b then [48,50]else [48,48]:=by
    rw[xg.out];by_cases e:X.val ks f.key x.b=X.val ks f.key r.b
    ·rw[if_pos ⟨by omega,decide_eq_true e⟩,if_pos e]
    ·rw[if_neg (fun h=>e (of_decide_eq_true h.2)),if_neg e]
   have iX:=ea (X.val ks f.key x.b) (X.val ks f.key r.b);have xh:=aa qu;clear xg Hd hx qu HV HM;generalize(⟨(X.val ks f.key x.b).toArray⟩:ByteArray)=vx at iX Km;generalize TJ:(⟨(X.val ks f.key r.b).toArray⟩:ByteArray)=vr at iX Nx;clear TJ;by_cases Eg:X.val ks f.key x.b=X.val ks f.key r.b
   ·rw[decide_eq_true Eg]at iX;have qu:ts=[48,50]:=(by rw[xh.out,if_pos Eg]);subst qu;clear xh Eg;go_wp2_with fail;refine aL (.rd 0 (.rd 1 (.rd 2 (.rd 3 (.rd 4 (.rd 5 (.rd 6 (.rd 7 (.rd 8 (.rd 9 (.rd 10 (.rd 11 (.rd 12 (.rd 13 (.rd 14 (.rd 15 (.rd 16 (.rd 17 (.rd 19 (.rd 20 (.rd 21 (.rd 22 (.rd 23 (.rd 24 (.rd 25 (.rd 26 (.rd 27 (.wr 18 (.wr 28 (.rd 29 (.rd 30 .fin))))))))))))))))))))))))))))))) (fun w'=>At w0 p ((pf,av p nm size g ks.length c f2)::fs) s w'∧xY w pf w' v r.b) (by kernel_rfl) (by kernel_rfl) (fun c a d v w h=>by cases d<;>exact h) ⟨bz.out.below ((ai _ _).drew),pj.out.bl ((ai _ _).drew)⟩ ?_;repeat
     first
     |refine aw (v:= ?_) (by rfl) (by rfl) (fun w' hS=> ?_) (fun K hK=> ?_)
      rotate_left
      ·have hc:=fun j=>ag w' pf j _ _ _ (hS.1.get ae);rw[hk2]at hc;clear hS;go_simp;try with_reducible rfl
      go_simp;refine hK _ ?_;clear hK K
     |refine ax (by rfl) (by rfl) (fun K hK=> ?_)
      go_simp;refine hK _ ?_;clear hK K
    refine wpPm_write (by rfl) (fun K hK=> ?_);go_simp;refine(Km.out _ (HK.out _ (bz.out.below ((ai _ _).drew)))).mono ?_;rintro e W8 ⟨rfl,hb⟩;have hb:Below W7.heap.size W7 W8:=((ai _ W7).drew).trans hb;have jd:=aa (bz.out.below hb);have Eh:=aa (pj.out.bl hb);refine hK.out _ _ (fun w'=>At w0 p ((pf,av p nm size g ks.length c f2)::fs) s w'∧xY w pf w' v r.b) (fun _ h=>h) ⟨jd.out,Eh.out⟩ ?_;clear hK K hb;refine wpPm_write (by rfl) (fun K hK=> ?_);go_simp;refine(Nx.out _ (HK.out _ jd.out)).mono ?_;rintro e W9 ⟨rfl,hb⟩;have gC:=aa (jd.out.below hb);have Ei:=aa (Eh.out.bl hb);refine hK.out _ _ (fun w'=>At w0 p ((pf,av p nm size g ks.length c f2)::fs) s w'∧xY w pf w' v r.b) (fun _ h=>h) ⟨gC.out,Ei.out⟩ ?_;clear hK K hb;repeat
     first
     |refine aw (v:= ?_) (by rfl) (by rfl) (fun w' hS=> ?_) (fun K hK=> ?_)
      rotate_left
      ·have hc:=fun j=>ag w' pf j _ _ _ (hS.1.get ae);rw[hk2]at hc;clear hS;go_simp;try with_reducible rfl
      go_simp;refine hK _ ?_;clear hK K
     |refine ax (by rfl) (by rfl) (fun K hK=> ?_)
      go_simp;refine hK _ ?_;clear hK K
    show wpList _ _ _ _ _ _;go_wp2;go_ret2;exact⟨_,rfl,Ei.out,gC.out⟩
   ·rw[decide_eq_false Eg]at iX;have qu:ts=[48,48]:=(by rw[xh.out,if_neg Eg]);subst qu;clear xh Eg;go_wp2_with fail;refine aL (.rd 0 (.rd 1 (.rd 2 (.rd 3 (.rd 4 (.rd 5 (.rd 6 (.rd 7 (.rd 8 (.rd 9 (.rd 10 (.rd 11 (.rd 12 (.rd 13 (.rd 14 (.rd 15 (.rd 16 (.rd 17 (.rd 19 (.rd 20 (.rd 21 (.rd 22 (.rd 23 (.rd 24 (.rd 25 (.rd 26 (.rd 27 (.wr 18 (.wr 28 (.rd 29 (.rd 30 .fin))))))))))))))))))))))))))))))) (fun w'=>At w0 p ((pf,av p nm size g ks.length c f2)::fs) s w'∧xY w pf w' v r.b) (by kernel_rfl) (by kernel_rfl) (fun c a d v w h=>by cases d<;>exact h) ⟨bz.out.below ((ai _ _).drew),pj.out.bl ((ai _ _).drew)⟩ ?_;repeat
     first
     |refine aw (v:= ?_) (by rfl) (by rfl) (fun w' hS=> ?_) (fun K hK=> ?_)
      rotate_left
      ·have hc:=fun j=>ag w' pf j _ _ _ (hS.1.get ae);rw[hk2]at hc;clear hS;go_simp;try with_reducible rfl
      go_simp;refine hK _ ?_;clear hK K
     |refine ax (by rfl) (by rfl) (fun K hK=> ?_)
      go_simp;refine hK _ ?_;clear hK K
    refine wpPm_write (by rfl) (fun K hK=> ?_);go_simp;refine(Km.out _ (HK.out _ (bz.out.below ((ai _ _).drew)))).mono ?_;rintro e W8 ⟨rfl,hb⟩;have hb:Below W7.heap.size W7 W8:=((ai _ W7).drew).trans hb;have jd:=aa (bz.out.below hb);have Eh:=aa (pj.out.bl hb);refine hK.out _ _ (fun w'=>At w0 p ((pf,av p nm size g ks.length c f2)::fs) s w'∧xY w pf w' v r.b) (fun _ h=>h) ⟨jd.out,Eh.out⟩ ?_;clear hK K hb;refine wpPm_write (by rfl) (fun K hK=> ?_);go_simp;refine(Nx.out _ (HK.out _ jd.out)).mono ?_;rintro e W9 ⟨rfl,hb⟩;have gC:=aa (jd.out.below hb);have Ei:=aa (Eh.out.bl hb);refine hK.out _ _ (fun w'=>At w0 p ((pf,av p nm size g ks.length c f2)::fs) s w'∧xY w pf w' v r.b) (fun _ h=>h) ⟨gC.out,Ei.out⟩ ?_;clear hK K hb;repeat
     first
     |refine aw (v:= ?_) (by rfl) (by rfl) (fun w' hS=> ?_) (fun K hK=> ?_)
      rotate_left
      ·have hc:=fun j=>ag w' pf j _ _ _ (hS.1.get ae);rw[hk2]at hc;clear hS;go_simp;try with_reducible rfl
      go_simp;refine hK _ ?_;clear hK K
     |refine ax (by rfl) (by rfl) (fun K hK=> ?_)
      go_simp;refine hK _ ?_;clear hK K
    show wpList _ _ _ _ _ _;go_wp2;go_ret2;exact⟨_,rfl,Ei.out,gC.out⟩
theorem zW (h:At w0 p ((pf,av p nm size g ks.length c f)::fs) s w) (hf:∀x∈fs,x.1≠pf) (bq:(g,ok)∈fs) (hO:bI ok ks) (ht:J.Two s) (hX:XF nm size ks rows ct s.now) (hs:X.cB [52,55] [1,3] f.mode=[48,48]) (hl:f.lost=false) (hkey:f.key<ks.length) (hp:afterOf s.now ⟨(X.pre nm f.key).toArray⟩ f.at_ f.same=none):
  Calls Tryz.prog 20 #[.pointer (some ⟨pf,0,none⟩)] w fun e w'=>e= .returned (.tuple #[.slice none 0 0, .string ⟨#[49,48]⟩])∧At w0 p ((pf,av p nm size g ks.length c {f with at_:=[],same:=false,lost:=true,read:=false})::fs) s w'∧w.grownBy w' (some pf):=by
 have hlt:=(ah (h.get ae)).1;have hlt:pf<w.heap.size:=hlt;have bR:=aa (aQ (h.get ae) [52,55] [1,3] 2 #[.int .u8 1, .int .u8 3] rfl rfl (by decide) w.heap.size rfl);rw[hs]at bR;have HA:=aa (h.below ((ai _ w).alloc (aj _) (.cells #[.int .u8 1, .int .u8 3] 32)));have hP:=fun W=>aZ nm size (some ⟨g,0,none⟩) ks.length c f.key (by have:=hX.ks.one;omega) (by have:=hX.nm;omega) W;have qs:=fun w1 (hh:At w0 p ((pf,av p nm size g ks.length c f)::fs) s w1)=>iP hh ⟨(X.pre nm f.key).toArray⟩ f.at_ f.same (by have:=hX.many;omega);rw[hp]at qs;have HP:=aa hP;have rq:=aa qs;have HF:=aa (fun w1 (hh:At w0 p ((pf,av p nm size g ks.length c f)::fs) s w1) w2 (hg:w1.grownBy w2 (some pf)) (hr:w2.heap[pf]? =some (av p nm size g ks.length c {f with at_:=[],same:=false,lost:=true,read:=false}))=>bc hh hf ht hg hr);generalize(⟨(X.pre nm f.key).toArray⟩:ByteArray)=P at HP rq;clear hP qs hp hf bq hO ht hX hkey;clear h hs;go_enter Tryz.func20,Tryz.ntmps20;go_wp2_with fail;refine bR.out.mono ?_;rintro e W1 ⟨rfl,hW1⟩;subst hW1;clear bR;refine aG (fun X=>At w0 p ((pf,av p nm size g ks.length c f)::fs) s X∧Below w.heap.size w X) ⟨HA.out,(ai _ w).alloc (aj _) _⟩ ?_;rintro W ⟨ha,kN⟩;clear HA;have hc:=fun j=>ag W pf j _ _ _ (ha.get (ae:(pf,av p nm size g ks.length c f)∈(pf,av p nm size g ks.length c f)::fs));rw[hl]at hc;go_wp2_with fail;clear hc;refine aA 28 (.rd 0 (.rd 1 (.rd 2 (.rd 3 (.rd 4 (.rd 5 (.rd 6 (.rd 7 (.rd 8 (.rd 9 (.rd 10 (.rd 11 (.rd 13 (.rd 14 (.rd 15 (.rd 16 (.rd 17 (.rd 18 (.rd 19 (.rd 20 (.rd 21 (.rd 22 (.wr 12 (.wr 23 (.rd 24 (.rd 25 (.rd 26 (.wr 27 .fin)))))))))))))))))))))))))))) (fun w'=>At w0 p ((pf,av p nm size g ks.length c f)::fs) s w') (by kernel_rfl) (by kernel_rfl) (fun c a d v w h=>by cases d<;>exact h) (ha.below ((ai _ _).drew)) ?_;repeat
  refine aw (v:= ?_) (by rfl) (by rfl) (fun w' hS=> ?_) (fun K hK=> ?_);rotate_left
  ·have hc:=fun j=>ag w' pf j _ _ _ (hS.get (ae:(pf,av p nm size g ks.length c f)∈(pf,av p nm size g ks.length c f)::fs));rw[hl]at hc;clear hS;go_simp;try with_reducible rfl
  go_simp;refine hK _ ?_;clear hK K
 refine wpPm_write (by rfl) (fun K hK=> ?_);go_simp;refine(HP.out _).mono ?_;rintro e W2 ⟨rfl,hb⟩;have dD:=aa (ha.below (((ai _ W).drew).trans hb));have bB:=aa (kN.trans ((((ai _ W).drew).trans hb).mono kN.size));refine hK.out _ _ (fun w'=>At w0 p ((pf,av p nm size g ks.length c f)::fs) s w') (fun _ h=>h) dD.out ?_;clear hK K;clear hb;refine wpPm_write (by rfl) (fun K hK=> ?_);go_simp;refine(rq.out _ dD.out).mono ?_;rintro e W3 ⟨rfl,hb⟩;have bH:=aa (dD.out.below hb);have cO:=aa (bB.out.trans (hb.mono bB.out.size));refine hK.out _ _ (fun w'=>At w0 p ((pf,av p nm size g ks.length c f)::fs) s w') (fun _ h=>h) bH.out ?_;clear hK K;clear hb;repeat
  refine aw (v:= ?_) (by rfl) (by rfl) (fun w' hS=> ?_) (fun K hK=> ?_);rotate_left
  ·have hc:=fun j=>ag w' pf j _ _ _ (hS.get (ae:(pf,av p nm size g ks.length c f)∈(pf,av p nm size g ks.length c f)::fs));rw[hl]at hc;clear hS;go_simp;try with_reducible rfl
  go_simp;refine hK _ ?_;clear hK K
 refine wpPm_write (by rfl) (fun K hK=> ?_);go_simp;refine hK.out _ _ (fun w'=>At w0 p ((pf,av p nm size g ks.length c f)::fs) s w') (fun _ h=>h) bH.out ?_;clear hK K;show wpList _ _ _ _ _ _;go_wp2_with fail;refine(kK (bH.out.get ae)).mono ?_;rintro e W4 ⟨⟨_,rfl⟩,hg,hr⟩;have bG:=aa (HF.out _ bH.out _ hg hr);have Bn:=aa (oP (oO cO.out) hg);clear hg hr HF;go_wp2;go_ret2;exact⟨rfl,bG.out,Bn.out⟩
theorem zX (h:At w0 p ((pf,av p nm size g ks.length c f)::fs) s w) (hf:∀x∈fs,x.1≠pf) (bq:(g,ok)∈fs) (hO:bI ok ks) (ht:J.Two s) (hX:XF nm size ks rows ct s.now) (hs:X.cB [52,55] [1,3] f.mode=[48,48]) (hl:f.lost=false) (hkey:f.key<ks.length) (r:X.Row) (hr:r∈rows) (hp:afterOf s.now ⟨(X.pre nm f.key).toArray⟩ f.at_ f.same=some (X.aJ nm ks f.key r)):
  Calls Tryz.prog 20 #[.pointer (some ⟨pf,0,none⟩)] w fun e w'=>∃v,e= .returned (.tuple #[v, .string ⟨(kQ ks rows f.key r).toArray⟩])∧cE w' (· <w.heap.size) v r.b∧At w0 p ((pf,av p nm size g ks.length c {f with at_:=X.aJ nm ks f.key r,same:=false,lost:=false,last:=X.val ks 0 r.b,read:=true})::fs) s w'∧w.grownBy w' (some pf):=by
 have hlt:=(ah (h.get ae)).1;have hlt:pf<w.heap.size:=hlt;have bR:=aa (aQ (h.get ae) [52,55] [1,3] 2 #[.int .u8 1, .int .u8 3] rfl rfl (by decide) w.heap.size rfl);rw[hs]at bR;have HA:=aa (h.below ((ai _ w).alloc (aj _) (.cells #[.int .u8 1, .int .u8 3] 32)));have hP:=fun W=>aZ nm size (some ⟨g,0,none⟩) ks.length c f.key (by have:=hX.ks.one;omega) (by have:=hX.nm;omega) W;have qs:=fun w1 (hh:At w0 p ((pf,av p nm size g ks.length c f)::fs) s w1)=>iP hh ⟨(X.pre nm f.key).toArray⟩ f.at_ f.same (by have:=hX.many;omega);rw[hp]at qs;have HP:=aa hP;have rq:=aa qs;have vh:=aa (fun w1 (hh:At w0 p ((pf,av p nm size g ks.length c f)::fs) s w1)=>zV hh hf bq hO ht hX hkey r hr);generalize kQ ks rows f.key r=st at vh⊢;generalize(⟨(X.pre nm f.key).toArray⟩:ByteArray)=P at HP rq;clear hP qs hp hf bq hO ht hX hkey hr;clear h hs;go_enter Tryz.func20,Tryz.ntmps20;go_wp2_with fail;refine bR.out.mono ?_;rintro e W1 ⟨rfl,hW1⟩;subst hW1;clear bR;refine aG (fun X=>At w0 p ((pf,av p nm size g ks.length c f)::fs) s X∧Below w.heap.size w X) ⟨HA.out,(ai _ w).alloc (aj _) _⟩ ?_;rintro W ⟨ha,kN⟩;clear HA;have hc:=fun j=>ag W pf j _ _ _ (ha.get (ae:(pf,av p nm size g ks.length c f)∈(pf,av p nm size g ks.length c f)::fs));rw[hl]at hc;go_wp2_with fail;clear hc;refine aA 28 (.rd 0 (.rd 1 (.rd 2 (.rd 3 (.rd 4 (.rd 5 (.rd 6 (.rd 7 (.rd 8 (.rd 9 (.rd 10 (.rd 11 (.rd 13 (.rd 14 (.rd 15 (.rd 16 (.rd 17 (.rd 18 (.rd 19 (.rd 20 (.rd 21 (.rd 22 (.wr 12 (.wr 23 (.rd 24 (.rd 25 (.rd 26 (.wr 27 .fin)))))))))))))))))))))))))))) (fun w'=>At w0 p ((pf,av p nm size g ks.length c f)::fs) s w') (by kernel_rfl) (by kernel_rfl) (fun c a d v w h=>by cases d<;>exact h) (ha.below ((ai _ _).drew)) ?_;repeat
  refine aw (v:= ?_) (by rfl) (by rfl) (fun w' hS=> ?_) (fun K hK=> ?_);rotate_left
  ·have hc:=fun j=>ag w' pf j _ _ _ (hS.get (ae:(pf,av p nm size g ks.length c f)∈(pf,av p nm size g ks.length c f)::fs));rw[hl]at hc;clear hS;go_simp;try with_reducible rfl
  go_simp;refine hK _ ?_;clear hK K
 refine wpPm_write (by rfl) (fun K hK=> ?_);go_simp;refine(HP.out _).mono ?_;rintro e W2 ⟨rfl,hb⟩;have dD:=aa (ha.below (((ai _ W).drew).trans hb));have bB:=aa (kN.trans ((((ai _ W).drew).trans hb).mono kN.size));refine hK.out _ _ (fun w'=>At w0 p ((pf,av p nm size g ks.length c f)::fs) s w') (fun _ h=>h) dD.out ?_;clear hK K;clear hb;refine wpPm_write (by rfl) (fun K hK=> ?_);go_simp;refine(rq.out _ dD.out).mono ?_;rintro e W3 ⟨rfl,hb⟩;have bH:=aa (dD.out.below hb);have cO:=aa (bB.out.trans (hb.mono bB.out.size));refine hK.out _ _ (fun w'=>At w0 p ((pf,av p nm size g ks.length c f)::fs) s w') (fun _ h=>h) bH.out ?_;clear hK K;clear hb;repeat
  refine aw (v:= ?_) (by rfl) (by rfl) (fun w' hS=> ?_) (fun K hK=> ?_);rotate_left
  ·have hc:=fun j=>ag w' pf j _ _ _ (hS.get (ae:(pf,av p nm size g ks.length c f)∈(pf,av p nm size g ks.length c f)::fs));rw[hl]at hc;clear hS;go_simp;try with_reducible rfl
  go_simp;refine hK _ ?_;clear hK K
 refine wpPm_write (by rfl) (fun K hK=> ?_);go_simp;refine hK.out _ _ (fun w'=>At w0 p ((pf,av p nm size g ks.length c f)::fs) s w') (fun _ h=>h) bH.out ?_;clear hK K;show wpList _ _ _ _ _ _;go_wp2_with fail;refine(vh.out _ bH.out).mono ?_;rintro e W4 ⟨v,rfl,Bw,xi⟩;have bG:=aa xi;have Bn:=aa (oP (oO cO.out) Bw.2);have TK:=aa (Bw.1.weak (M':=(· <w.heap.size)) (fun k hk=>aq hk cO.out.size));clear Bw xi vh;go_wp2;go_ret2;exact⟨_,rfl,TK.out,bG.out,Bn.out⟩
end
end Go.Proofs.YtipljcmmokaokaaGreat
