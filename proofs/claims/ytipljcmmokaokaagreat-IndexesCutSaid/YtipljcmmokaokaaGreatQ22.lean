import Derived.Test.YtipljcmmokaokaaGreatQ21
import Derived.Test.YtipljcmmokaokaaGreatQ16
import Derived.Test.YtipljcmmokaokaaGreatQ18
set_option linter.unusedVariables false
set_option linter.unusedSimpArgs false
set_option maxHeartbeats 40000000
namespace Go.Proofs.YtipljcmmokaokaaGreat
open Go.RowKit Go.Lib Go.Maps Go.WideMaps Go.Sort
set_option maxRecDepth 100000
def MW (w:World) (pf:Nat) (W:World) (v:Value) (l:J.B):Prop:=bT W (· <w.heap.size) v l/\w.grownBy W (some pf)
theorem oc {w w':World} {r:Option Nat} (a:Below w.heap.size w w'):w.grownBy w' r:=⟨a.os,a.tape,a.output,a.size,λk b _=>a.block k b⟩
theorem og {w w1 d:World} {r:Option Nat} (h1:w.grownBy w1 r) (a:w1.grownBy d r):w.grownBy d r:=
 ⟨a.os.trans h1.os,a.tape.trans h1.tape,a.output.trans h1.output,aw h1.size a.size,λk b c=>(a.block k (av b h1.size) c).trans (h1.block k b c)⟩
theorem MW.bl {w W W':World} {pf:Nat} {v:Value} {l:J.B} (h:MW w pf W v l) (a:Below W.heap.size W W'):MW w pf W' v l:=⟨h.1.step (Step.aC a),og h.2 (oc a)⟩
section
variable {w0 : World} {p pf g c size ct u : Nat} {nm : J.B} {ks : List X.Ky} {rows : List X.Row} {f : Fv} {w w' : World} {s s1 s2 : J.St} {fs : List (Nat × Obj)} {ok : Obj}
theorem EU (h:At w0 p ((pf,ax p nm size g ks.length c f)::fs) s w) (hf:∀x∈fs,x.1≠pf) (a9:(g,ok)∈fs) (hO:bR ok ks) (ht:J.Two s) (m:XF nm size ks rows ct s.now) (F:f.key<ks.length) (r:X.Row) (G:r∈rows):
  Calls Tryz.prog 67 #[.pointer (some ⟨pf,0,none⟩), .string ⟨(X.aN nm ks f.key r).toArray⟩] w λe w'=>∃v,e= .returned (.tuple #[v, .string ⟨(gZ ks rows f.key r).toArray⟩])/\MW w pf w' v r.b/\At w0 p ((pf,ax p nm size g ks.length c {f with at_:=X.aN nm ks f.key r,same:=false,lost:=false,last:=X.val ks 0 r.b,read:=true})::fs) s w':=by
 have h0:=h.get af;have h0:w.heap[pf]? =some (ax p nm size g ks.length c f):=h0;have b6:=(ai h0).1;have hR:=λw1 (d:Below w.heap.size w w1)=>pR (h.below d) m F G (some ⟨g,0,none⟩) ks.length c;have hP:=λW=>bU nm size (some ⟨g,0,none⟩) ks.length c f.key (by have:=m.ks.one;omega) (by have:=m.nm;omega) W;have a7:=λw1 t (hh:At w0 p ((pf,ax p nm size g ks.length c {f with at_:=X.aN nm ks f.key r,same:=false,lost:=false,last:=X.val ks 0 r.b,read:=true})::fs) s w1)=>iL hh ⟨(X.pre nm f.key).toArray⟩ (X.aN nm ks f.key r) t (by have:=m.many;omega);have C:=λw1 (hh:At w0 p ((pf,ax p nm size g ks.length c {f with at_:=X.aN nm ks f.key r,same:=false,lost:=false,last:=X.val ks 0 r.b,read:=true})::fs) s w1)=>a7 w1 false hh;rw[m.con.zg m.ks m.rows (by have:=m.ct;omega) F G]at C;have Q:=λx (z:x∈rows) w1 (hk:dJ w1 g ks)=>jE (c:=c) m F z w1 hk;have a8:=Q r G;have a:=λw1 (hh:At w0 p ((pf,ax p nm size g ks.length c {f with at_:=X.aN nm ks f.key r,same:=false,lost:=false,last:=X.val ks 0 r.b,read:=true})::fs) s w1)=>hO.2 w1 g (hh.get (ag _ a9));have hF:=λw1 w2 (hh:At w0 p ((pf,ax p nm size g ks.length c f)::fs) s w1) (hg:w1.grownBy w2 (some pf)) (hq:w2.heap[pf]? =some (ax p nm size g ks.length c {f with at_:=X.aN nm ks f.key r,same:=false,lost:=false,last:=X.val ks 0 r.b,read:=true}))=>cR hh hf ht hg hq;have hM:∀x,(X.cn ks f.key rows).find? (X.mD ks f.key r ·)=some x->x∈rows:=λx z=>(X.bD ks f.key x rows).1 (X.cU z).1;obtain⟨f2,D⟩:∃f2:Fv,f2={f with at_:=X.aN nm ks f.key r,same:=false,lost:=false,last:=X.val ks 0 r.b,read:=true}:=⟨_,rfl⟩;have y:f2.key=f.key:=by rw[D]
 rw[<-D]at C a hF|-;have b2:=ae D;have HR:=ae hR;have HP:=ae hP;have M:=ae C;have HV:=ae Q;have a4:=ae a8;have Z:=ae a;have Y:=ae hF;have HM:=ae hM;have b3:=ae b6;have H0:=ae h0;have l:gZ ks rows f.key r=if 0<f.key/\moreB ks rows f.key r=true then [48,50]else [48,48]:=rfl;unfold moreB at l;have o:=ae l;generalize gZ ks rows f.key r=ts at o|-;generalize(⟨(X.pre nm f.key).toArray⟩:ByteArray)=P at HP M;clear h hf a9 hO ht m F hR hP a7 C Q a8 a hF hM l D G;go_enter Tryz.func67,Tryz.ntmps67;go_upto_region 1 with fail;refine aJ 18 (.rd 0 (.rd 1 (.rd 2 (.rd 3 (.rd 4 (.rd 5 (.rd 6 (.rd 7 (.rd 8 (.rd 9 (.rd 10 (.rd 11 (.rd 12 (.wr 13 (.rd 14 (.rd 15 (.rd 16 (.wr 17 .fin)))))))))))))))))) (λw'=>w'.heap[pf]? =some (ax p nm size g ks.length c f)) h0 ?_;repeat
  refine aA (v:= ?_) (λw' b=> ?_) (λK a=> ?_);rotate_left
  ·have i:=aj w' pf b;clear b;go_simp;try with_reducible rfl
  go_simp;refine a _ ?_;clear a K
 clear h0;refine az (λK a=> ?_);go_simp;refine(HR.o _ ((ak _ w).drew)).mono ?_;rintro e w1 ⟨v,rfl,H,ha,d⟩;have b4:Below w.heap.size w w1:=((ak _ w).drew).trans d;have h1:w1.heap[pf]? =some (ax p nm size g ks.length c f):=ha.get af;refine a.out _ _ (λw'=>w'.heap[pf]? =some (ax p nm size g ks.length c f)) (λ_ h=>h) (ha.get af) ?_;clear a K;repeat
  refine aA (v:= ?_) (λw' b=> ?_) (λK a=> ?_);rotate_left
  ·have i:=aj w' pf b;clear b;go_simp;try with_reducible rfl
  go_simp;refine a _ ?_;clear a K
 refine az (λK a=> ?_);go_simp;refine a.out _ _ (λw'=>w'.heap[pf]? =some (ax p nm size g ks.length c f)) (λ_ h=>h) h1 ?_;clear a K;have H:bT w1 (· <w.heap.size) v r.b:=H;have hz:=aD h1;have i:=aj w1 pf h1;have E:=ay (ay (ay (ay (ay (World.grownBy.refl w1 (some pf)) 7 (.string ⟨(X.aN nm ks f.key r).toArray⟩)) 8 (.bool false)) 9 (.bool false)) 10 (.string ⟨(X.val ks 0 r.b).toArray⟩)) 11 (.bool true);have b0:=aB (aB (aB (aB (aB h1 7 (.string ⟨(X.aN nm ks f.key r).toArray⟩)) 8 (.bool false)) 9 (.bool false)) 10 (.string ⟨(X.val ks 0 r.b).toArray⟩)) 11 (.bool true);have U:=ae (Y.o _ _ ha E (by rw[b2.o];exact b0));have a0:aa (MW w pf _ v r.b):=ae ⟨(H.step (Step.bg E (λk e _=>by injection e with e;subst e;exact b3.o):Step _ (· <w.heap.size) _ _)),og (oc b4) E⟩;clear E b0 H ha d HR Y;show wpList _ _ _ _ _ _;go_wp2_with fail;clear h1 hz i;refine aL (λu=>At w0 p ((pf,ax p nm size g ks.length c f2)::fs) s u/\MW w pf u v r.b) ⟨U.o,a0.o⟩ ?_;rintro u ⟨S,b1⟩;have h5:u.heap[pf]? =some (ax p nm size g ks.length c f2):=S.get af;have T:=ae S;have HS:=ae b1;clear U a0 S b1;refine aJ 8 (.rd 0 (.rd 1 (.rd 2 (.rd 3 (.rd 4 (.rd 5 (.rd 6 (.rd 7 .fin)))))))) (λw'=>w'.heap[pf]? =some (ax p nm size g ks.length c f2)) h5 ?_;repeat
  refine aA (v:= ?_) (λw' b=> ?_) (λK a=> ?_);rotate_left
  ·have i:=aj w' pf b;rw[y]at i;clear b;go_simp;try with_reducible rfl
  go_simp;refine a _ ?_;clear a K
 show wpList _ _ _ _ _ _;go_wp2_with fail;refine(HP.o _).mono ?_;rintro e W6 ⟨rfl,d⟩;have d:Below u.heap.size u W6:=((ak _ u).drew).trans d;have B:=ae (T.o.below d);have a1:=ae (HS.o.bl d);have i:=aj W6 pf (B.o.get af);clear d HP T HS h5;go_wp2_with fail;refine(M.o _ B.o).mono ?_;rintro e O ⟨rfl,d⟩;have n:=ae (B.o.below d);have q:=ae (a1.o.bl d);clear d i M B a1;by_cases b8:f.key=0
 ·have b5:¬(0:Int)<(f.key:Nat):=(by omega);have l:ts=[48,48]:=(by rw[o.o,if_neg (by omega)]);subst l;clear o;generalize((List.find? (λx=>X.mD ks f.key r x) (X.cn ks f.key rows)).map (X.aN nm ks f.key))=mo;go_wp2_with fail;refine aR (.rd 0 (.rd 1 (.rd 2 (.rd 3 (.rd 4 (.rd 5 (.rd 6 (.rd 7 (.rd 8 (.rd 9 (.rd 10 (.rd 11 (.rd 12 (.rd 13 (.rd 14 (.rd 15 (.rd 16 (.rd 17 (.rd 19 (.rd 20 (.rd 21 (.rd 22 (.rd 23 (.rd 24 (.rd 25 (.rd 26 (.rd 27 (.wr 18 (.wr 28 (.rd 29 (.rd 30 .fin))))))))))))))))))))))))))))))) (λw'=>At w0 p ((pf,ax p nm size g ks.length c f2)::fs) s w'/\MW w pf w' v r.b) ⟨n.o.below ((ak _ _).drew),q.o.bl ((ak _ _).drew)⟩ ?_;repeat
   first
    |refine aA (v:= ?_) (λw' b=> ?_) (λK a=> ?_)
     rotate_left
     ·have i:=aj w' pf (b.1.get af);rw[y]at i;clear b;go_simp;try with_reducible rfl
     go_simp;refine a _ ?_;clear a K
    |refine aF (λK a=> ?_)
     go_simp;refine a _ ?_;clear a K
  iterate 2
   refine az (λK a=> ?_);go_simp;refine a.out _ _ (λw'=>At w0 p ((pf,ax p nm size g ks.length c f2)::fs) s w'/\MW w pf w' v r.b) (λ_ h=>h) ⟨n.o.below ((ak _ _).drew),q.o.bl ((ak _ _).drew)⟩ ?_;clear a K
  repeat
   first
    |refine aA (v:= ?_) (λw' b=> ?_) (λK a=> ?_)
     rotate_left
     ·have i:=aj w' pf (b.1.get af);rw[y]at i;clear b;go_simp;try with_reducible rfl
     go_simp;refine a _ ?_;clear a K
    |refine aF (λK a=> ?_)
     go_simp;refine a _ ?_;clear a K
  show wpList _ _ _ _ _ _;go_wp2;go_ret2;exact⟨_,rfl,q.o.bl ((ak _ _).drew),n.o.below ((ak _ _).drew)⟩
 ·have b5:(0:Int)<(f.key:Nat):=(by omega);have b9:0<f.key:=(by omega);cases Qi:(X.cn ks f.key rows).find? (X.mD ks f.key r ·)with
   |none=>
    rw[Qi]at o;have l:ts=[48,48]:=(by rw[o.o,if_neg (λh=>by cases h.2)]);subst l;clear o Qi;go_wp2_with fail;refine aR (.rd 0 (.rd 1 (.rd 2 (.rd 3 (.rd 4 (.rd 5 (.rd 6 (.rd 7 (.rd 8 (.rd 9 (.rd 10 (.rd 11 (.rd 12 (.rd 13 (.rd 14 (.rd 15 (.rd 16 (.rd 17 (.rd 19 (.rd 20 (.rd 21 (.rd 22 (.rd 23 (.rd 24 (.rd 25 (.rd 26 (.rd 27 (.wr 18 (.wr 28 (.rd 29 (.rd 30 .fin))))))))))))))))))))))))))))))) (λw'=>At w0 p ((pf,ax p nm size g ks.length c f2)::fs) s w'/\MW w pf w' v r.b) ⟨n.o.below ((ak _ _).drew),q.o.bl ((ak _ _).drew)⟩ ?_;repeat
     first
      |refine aA (v:= ?_) (λw' b=> ?_) (λK a=> ?_)
       rotate_left
       ·have i:=aj w' pf (b.1.get af);rw[y]at i;clear b;go_simp;try with_reducible rfl
       go_simp;refine a _ ?_;clear a K
      |refine aF (λK a=> ?_)
       go_simp;refine a _ ?_;clear a K
    iterate 2
     refine az (λK a=> ?_);go_simp;refine a.out _ _ (λw'=>At w0 p ((pf,ax p nm size g ks.length c f2)::fs) s w'/\MW w pf w' v r.b) (λ_ h=>h) ⟨n.o.below ((ak _ _).drew),q.o.bl ((ak _ _).drew)⟩ ?_;clear a K
    repeat
     first
      |refine aA (v:= ?_) (λw' b=> ?_) (λK a=> ?_)
       rotate_left
       ·have i:=aj w' pf (b.1.get af);rw[y]at i;clear b;go_simp;try with_reducible rfl
       go_simp;refine a _ ?_;clear a K
      |refine aF (λK a=> ?_)
       go_simp;refine a _ ?_;clear a K
    show wpList _ _ _ _ _ _;go_wp2;go_ret2;exact⟨_,rfl,q.o.bl ((ak _ _).drew),n.o.below ((ak _ _).drew)⟩
   |some x=>
    rw[Qi]at o;have z:=HM.o x Qi;have a5:=ae (HV.o x z);have l:ts=if X.val ks f.key x.b=X.val ks f.key r.b then [48,50]else [48,48]:=by
     rw[o.o];by_cases e:X.val ks f.key x.b=X.val ks f.key r.b
     ·rw[if_pos ⟨by omega,decide_eq_true e⟩,if_pos e]
     ·rw[if_neg (λh=>e (of_decide_eq_true h.2)),if_neg e]
    have I:=dt (X.val ks f.key x.b) (X.val ks f.key r.b);have N:=ae l;clear o Qi z l HV HM;generalize(⟨(X.val ks f.key x.b).toArray⟩:ByteArray)=vx at I a5;generalize b7:(⟨(X.val ks f.key r.b).toArray⟩:ByteArray)=vr at I a4;clear b7;by_cases A:X.val ks f.key x.b=X.val ks f.key r.b
    have a6:=trivial
    all_goals
     first
      |have a6:=a6
       rw[decide_eq_true A]at I;have l:ts=[48,50]:=by rw[N.o,if_pos A]
       skip
      |rw[decide_eq_false A]at I
       have l:ts=[48,48]:=by rw[N.o,if_neg A]
     subst l;clear N A;go_wp2_with fail;refine aR (.rd 0 (.rd 1 (.rd 2 (.rd 3 (.rd 4 (.rd 5 (.rd 6 (.rd 7 (.rd 8 (.rd 9 (.rd 10 (.rd 11 (.rd 12 (.rd 13 (.rd 14 (.rd 15 (.rd 16 (.rd 17 (.rd 19 (.rd 20 (.rd 21 (.rd 22 (.rd 23 (.rd 24 (.rd 25 (.rd 26 (.rd 27 (.wr 18 (.wr 28 (.rd 29 (.rd 30 .fin))))))))))))))))))))))))))))))) (λw'=>At w0 p ((pf,ax p nm size g ks.length c f2)::fs) s w'/\MW w pf w' v r.b) ⟨n.o.below ((ak _ _).drew),q.o.bl ((ak _ _).drew)⟩ ?_;repeat
      first
       |refine aA (v:= ?_) (λw' b=> ?_) (λK a=> ?_)
        rotate_left
        ·have i:=aj w' pf (b.1.get af);rw[y]at i;clear b;go_simp;try with_reducible rfl
        go_simp;refine a _ ?_;clear a K
       |refine aF (λK a=> ?_)
        go_simp;refine a _ ?_;clear a K
     refine az (λK a=> ?_);go_simp;refine(a5.o _ (Z.o _ (n.o.below ((ak _ _).drew)))).mono ?_;rintro e W8 ⟨rfl,d⟩;have d:Below O.heap.size O W8:=((ak _ O).drew).trans d;have L:=ae (n.o.below d);have a2:=ae (q.o.bl d);refine a.out _ _ (λw'=>At w0 p ((pf,ax p nm size g ks.length c f2)::fs) s w'/\MW w pf w' v r.b) (λ_ h=>h) ⟨L.o,a2.o⟩ ?_;clear a K d;refine az (λK a=> ?_);go_simp;refine(a4.o _ (Z.o _ L.o)).mono ?_;rintro e W9 ⟨rfl,d⟩;have V:=ae (L.o.below d);have a3:=ae (a2.o.bl d);refine a.out _ _ (λw'=>At w0 p ((pf,ax p nm size g ks.length c f2)::fs) s w'/\MW w pf w' v r.b) (λ_ h=>h) ⟨V.o,a3.o⟩ ?_;clear a K d;repeat
      first
       |refine aA (v:= ?_) (λw' b=> ?_) (λK a=> ?_)
        rotate_left
        ·have i:=aj w' pf (b.1.get af);rw[y]at i;clear b;go_simp;try with_reducible rfl
        go_simp;refine a _ ?_;clear a K
       |refine aF (λK a=> ?_)
        go_simp;refine a _ ?_;clear a K
     show wpList _ _ _ _ _ _;go_wp2;go_ret2;exact⟨_,rfl,a3.o,V.o⟩
theorem RZ:(∀{w0:World} {p pf g c size ct:Nat} {nm:J.B} {ks:List X.Ky} {rows:List X.Row} {f:Fv} {w:World} {s:J.St} {fs:List (Nat×Obj)} {ok:Obj} (h:At w0 p ((pf,ax p nm size g ks.length c f)::fs) s w) (m:∀x∈fs,x.1≠pf) (u:(g,ok)∈fs) (o:bR ok ks) (n:J.Two s) (b:XF nm size ks rows ct s.now) (D:X.bP [52,55] [1,3] f.mode=[48,48]) (y:f.lost=false) (t:f.key<ks.length) (r:X.Row) (i:r∈rows) (z:afterOf s.now ⟨(X.pre nm f.key).toArray⟩ f.at_ f.same=some (X.aN nm ks f.key r)),Calls Tryz.prog 20 #[.pointer (some ⟨pf,0,none⟩)] w λe w'=>∃v,e= .returned (.tuple #[v, .string ⟨(gZ ks rows f.key r).toArray⟩])/\bT w' (· <w.heap.size) v r.b/\At w0 p ((pf,ax p nm size g ks.length c {f with at_:=X.aN nm ks f.key r,same:=false,lost:=false,last:=X.val ks 0 r.b,read:=true})::fs) s w'/\w.grownBy w' (some pf))/\(∀{w0:World} {p pf g c size ct:Nat} {nm:J.B} {ks:List X.Ky} {rows:List X.Row} {f:Fv} {w:World} {s:J.St} {fs:List (Nat×Obj)} {ok:Obj} (h:At w0 p ((pf,ax p nm size g ks.length c f)::fs) s w) (m:∀x∈fs,x.1≠pf) (u:(g,ok)∈fs) (o:bR ok ks) (n:J.Two s) (b:XF nm size ks rows ct s.now) (D:X.bP [52,55] [1,3] f.mode=[48,48]) (y:f.lost=false) (t:f.key<ks.length) (z:afterOf s.now ⟨(X.pre nm f.key).toArray⟩ f.at_ f.same=none),Calls Tryz.prog 20 #[.pointer (some ⟨pf,0,none⟩)] w λe w'=>e= .returned (.tuple #[.slice none 0 0, .string ⟨#[49,48]⟩])/\At w0 p ((pf,ax p nm size g ks.length c {f with at_:=[],same:=false,lost:=true,read:=false})::fs) s w'/\w.grownBy w' (some pf)):=by
 refine⟨?z0, ?z1⟩
 case' z0=>intro w0 p pf g c size ct nm ks rows f w s fs ok h m u o n b D y t r i z
 case' z1=>(intro w0 p pf g c size ct nm ks rows f w s fs ok h m u o n b D y t z;have d:=trivial)
 all_goals
  have Z:=(ai (h.get af)).1;have Z:pf<w.heap.size:=Z;have I:=ae (bQ (h.get af) [52,55] [1,3] 2 #[.int .u8 1, .int .u8 3] rfl rfl (by decide) w.heap.size rfl);rw[D]at I;have Q:=ae (h.below ((ak _ w).alloc (aq _) (.cells #[.int .u8 1, .int .u8 3] 32)));have N:=λW=>bU nm size (some ⟨g,0,none⟩) ks.length c f.key (by have:=b.ks.one;omega) (by have:=b.nm;omega) W;have E:=λw1 (hh:At w0 p ((pf,ax p nm size g ks.length c f)::fs) s w1)=>iL hh ⟨(X.pre nm f.key).toArray⟩ f.at_ f.same (by have:=b.many;omega);rw[z]at E;have HP:=ae N;have S:=ae E;first
   |have d:=d
    have U:=ae (λw1 (hh:At w0 p ((pf,ax p nm size g ks.length c f)::fs) s w1) w2 (C:w1.grownBy w2 (some pf)) (i:w2.heap[pf]? =some (ax p nm size g ks.length c {f with at_:=[],same:=false,lost:=true,read:=false}))=>cR hh m n C i)
    skip
   |have M:=ae (λw1 (hh:At w0 p ((pf,ax p nm size g ks.length c f)::fs) s w1)=>EU hh m u o n b t r i)
    generalize gZ ks rows f.key r=st at M|-
  generalize(⟨(X.pre nm f.key).toArray⟩:ByteArray)=P at HP S;first
   |have d:=d
    clear N E z m u o n b t
   |clear N E z m u o n b t i
  clear h D;go_enter Tryz.func20,Tryz.ntmps20;go_wp2_with fail;refine I.o.mono ?_;rintro e W1 ⟨rfl,a1⟩;subst a1;clear I;refine aL (λX=>At w0 p ((pf,ax p nm size g ks.length c f)::fs) s X/\Below w.heap.size w X) ⟨Q.o,(ak _ w).alloc (aq _) _⟩ ?_;rintro W ⟨ha,Y⟩;clear Q;have q:=aj W pf (ha.get (af:(pf,ax p nm size g ks.length c f)∈(pf,ax p nm size g ks.length c f)::fs));rw[y]at q;go_wp2_with fail;clear q;refine aJ 28 (.rd 0 (.rd 1 (.rd 2 (.rd 3 (.rd 4 (.rd 5 (.rd 6 (.rd 7 (.rd 8 (.rd 9 (.rd 10 (.rd 11 (.rd 13 (.rd 14 (.rd 15 (.rd 16 (.rd 17 (.rd 18 (.rd 19 (.rd 20 (.rd 21 (.rd 22 (.wr 12 (.wr 23 (.rd 24 (.rd 25 (.rd 26 (.wr 27 .fin)))))))))))))))))))))))))))) (λw'=>At w0 p ((pf,ax p nm size g ks.length c f)::fs) s w') (ha.below ((ak _ _).drew)) ?_;repeat
   refine aA (v:= ?_) (λw' B=> ?_) (λK a=> ?_);rotate_left
   ·have q:=aj w' pf (B.get (af:(pf,ax p nm size g ks.length c f)∈(pf,ax p nm size g ks.length c f)::fs));rw[y]at q;clear B;go_simp;try with_reducible rfl
   go_simp;refine a _ ?_;clear a K
  refine az (λK a=> ?_);go_simp;refine(HP.o _).mono ?_;rintro e W2 ⟨rfl,l⟩;have F:=ae (ha.below (((ak _ W).drew).trans l));have T:=ae (Y.trans ((((ak _ W).drew).trans l).mono Y.size));refine a.out _ _ (λw'=>At w0 p ((pf,ax p nm size g ks.length c f)::fs) s w') (λ_ h=>h) F.o ?_;clear a K;clear l;refine az (λK a=> ?_);go_simp;refine(S.o _ F.o).mono ?_;rintro e W3 ⟨rfl,l⟩;have A:=ae (F.o.below l);have H:=ae (T.o.trans (l.mono T.o.size));refine a.out _ _ (λw'=>At w0 p ((pf,ax p nm size g ks.length c f)::fs) s w') (λ_ h=>h) A.o ?_;clear a K;clear l;repeat
   refine aA (v:= ?_) (λw' B=> ?_) (λK a=> ?_);rotate_left
   ·have q:=aj w' pf (B.get (af:(pf,ax p nm size g ks.length c f)∈(pf,ax p nm size g ks.length c f)::fs));rw[y]at q;clear B;go_simp;try with_reducible rfl
   go_simp;refine a _ ?_;clear a K
  refine az (λK a=> ?_);go_simp;refine a.out _ _ (λw'=>At w0 p ((pf,ax p nm size g ks.length c f)::fs) s w') (λ_ h=>h) A.o ?_;clear a K;show wpList _ _ _ _ _ _;go_wp2_with fail;first
   |have d:=d
    refine(kN (A.o.get af)).mono ?_;rintro e W4 ⟨⟨_,rfl⟩,C,i⟩;have G:=ae (U.o _ A.o _ C i);have L:=ae (og (oc H.o) C);clear C i U
   |refine(M.o _ A.o).mono ?_
    rintro e W4 ⟨v,rfl,O,V⟩;have G:=ae V;have L:=ae (og (oc H.o) O.2);have a0:=ae (O.1.weak (M':=(· <w.heap.size)) (λk hk=>av hk H.o.size));clear O V M
  go_wp2;go_ret2;first
   |have d:=d
    exact⟨rfl,G.o,L.o⟩
    skip
   |exact⟨_,rfl,a0.o,G.o,L.o⟩
abbrev EW:= @RZ.1
abbrev EX:= @RZ.2
end
section
variable {w0 : World} {p pf g c : Nat} {nm : J.B} {u : Nat} {fs : List (Nat × Obj)} {m m' : X.M} {L : List (List (J.B × J.B))} {w w' : World} {s s1 s' : J.St} {f f' : Fv} {ok : Obj}
theorem zL (h:IK w0 p pf nm u fs m L w) (B:u<=340) (v:Value) (b:J.B) (F:Src w0 p fs v b) (C:b.length<=1000000):
  Calls Tryz.prog 27 #[.pointer (some ⟨pf,0,none⟩),v] w λe w'=>e= .returned (.string ⟨(m.delete b).2.toArray⟩)/\FH w0 p pf nm u fs (m.delete b).1 L w':=by
 obtain⟨s,f,g,c,ok,h⟩:=h;obtain⟨A,cb,rfl,E⟩:=h.src F;have a:=X.LQ h.kp.mok b;have k:=h.fm.mode;revert a;unfold X.M.delete;by_cases n:X.bP [52,57] [3] m.mode=X.good
 ·rw[if_neg (Decidable.not_not.2 n)];have d:X.bP [52,57] [3] f.mode=[48,48]:=(by rw[k];exact n);have z:=X.eK h.kp.mok (Decidable.not_not.2 n);have i:=h.kp.xf B h.nm_ z;have G:=h.kp.mok.ks.key _ (X.aY h.kp.mok.ks.one.1);have H:=h.kp.mok.ks.size;by_cases q:m.ord=false/\b.length<(X.aH m.ks 0).at_+(X.aH m.ks 0).len
  ·rw[if_pos q];intro a;refine(IC h.at_ h.ne af h.ko h.kp.sto.two i b A cb d (h.fm.ord.trans q.1) q.2 (by omega)).mono ?_;rintro e w1 ⟨rfl,h1⟩;exact⟨rfl,h.same (m':=m.aG) h1 a h.fm.aG rfl rfl rfl rfl rfl⟩
  ·rw[if_neg q];by_cases l:m.ord=true/\m.read=false
   ·rw[if_pos l];intro a;refine(EI h.at_ h.ne af h.ko h.kp.sto.two i b A cb d (h.fm.ord.trans l.1) (h.fm.read.trans l.2)).mono ?_;rintro e w1 ⟨rfl,h1⟩;exact⟨rfl,h.same (m':=m.aG) h1 a h.fm.aG rfl rfl rfl rfl rfl⟩
   ·rw[if_neg l];cases ho:m.ord with
    |true=>
     have y:m.read=true:=Decidable.byContradiction λx=>l ⟨ho,Bool.not_eq_true _▸x⟩;rw[if_pos rfl];have j:f.last.length<=160:=(by rw[h.fm.last];exact h.fm.rl y);cases ea:m.find m.last with
     |none=>
      intro a;refine(ET h.at_ h.ne af h.ko h.cap h.kp.sto.two i b A cb d (h.fm.ord.trans ho) (h.fm.read.trans y) j (by rw[h.fm.last];exact ea)).mono ?_;rintro e w1 ⟨rfl,h1⟩;exact⟨rfl,h.same (m':=m.aG) h1 a h.fm.aG rfl rfl rfl rfl rfl⟩
     |some o=>
      intro a;refine(MV h.at_ h.ne af h.ko h.cap h.kp.sto.two i b A cb d (h.fm.ord.trans ho) (h.fm.read.trans y) j (by rw[h.fm.last];exact ea) h.kp.sto B h.kp.mok.many).mono ?_;rintro e w1 ⟨rfl,s1,now,h1,t,r⟩;rw[h.fm.last]at r;exact⟨rfl,h.tx h.kp h1 a ⟨k,h.fm.ord,h.fm.key,h.fm.lost,h.fm.last,rfl,h.fm.written,h.fm.pos,λe=>by cases e⟩ rfl rfl t (X.xq (by exact z) (by exact r))⟩
    |false=>
     rw[if_neg (by decide)];have D:(X.aH m.ks 0).at_+(X.aH m.ks 0).len<=b.length:=Nat.le_of_not_lt λx=>q ⟨ho,x⟩;have j:(X.val m.ks 0 b).length<=160:=by
      show(((b.drop _).take _)).length<=160;rw[List.length_take];omega
     cases ea:m.find (X.val m.ks 0 b)with
     |none=>
      intro a;refine(ES h.at_ h.ne af h.ko h.cap h.kp.sto.two i b A cb d (h.fm.ord.trans ho) D C j E ea).mono ?_;rintro e w1 ⟨rfl,h1⟩;exact⟨rfl,h.same (m':=m.aG) h1 a h.fm.aG rfl rfl rfl rfl rfl⟩
     |some o=>
      intro a;refine(MU h.at_ h.ne af h.ko h.cap h.kp.sto.two i b A cb d (h.fm.ord.trans ho) D C j E ea h.kp.sto B h.kp.mok.many).mono ?_;rintro e w1 ⟨rfl,s1,now,h1,t,r⟩;exact⟨rfl,h.tx h.kp h1 a ⟨k,h.fm.ord,h.fm.key,h.fm.lost,h.fm.last,rfl,h.fm.written,h.fm.pos,λe=>by cases e⟩ rfl rfl t (X.xq (by exact z) (by exact r))⟩
 ·rw[if_pos n];intro a;refine(MO h.row (by rw[k];exact n) A b.length cb).mono ?_;rintro e w1 ⟨rfl,h1⟩;exact⟨by rw[k],h.same (h.at_.below h1) a h.fm rfl rfl rfl rfl rfl⟩
end
def IX (w0:World) (p pf:Nat) (nm:J.B) (u:Nat) (fs:List (Nat×Obj)) (m:X.M) (w:World):Prop:=∃L,IK w0 p pf nm u fs m L w
section
variable {w0 : World} {p pf g c : Nat} {nm : J.B} {u : Nat} {fs gs : List (Nat × Obj)} {m m' : X.M} {L : List (List (J.B × J.B))} {w w' : World} {s s1 s' : J.St} {f f' : Fv} {ok : Obj}
theorem afn (h:IK w0 p pf nm u fs m L w):IX w0 p pf nm u fs m w:=⟨L,h⟩
theorem FH.ix (h:FH w0 p pf nm u fs m L w):IX w0 p pf nm (u+1) fs m w:=by
 obtain⟨K,_,h⟩:=h;exact⟨K,h⟩
theorem KI.below (h:KI w0 p pf nm u fs m L s f g c ok w) (a:Below w.heap.size w w'):KI w0 p pf nm u fs m L s f g c ok w':=
 ⟨h.at_.below a,h.kp,h.fm,h.ko,h.cap,h.ne,h.neg,h.nm_⟩
theorem IK.below (h:IK w0 p pf nm u fs m L w) (a:Below w.heap.size w w'):IK w0 p pf nm u fs m L w':=by
 obtain⟨s,f,g,c,ok,h⟩:=h;exact⟨s,f,g,c,ok,h.below a⟩
theorem IX.below (h:IX w0 p pf nm u fs m w) (a:Below w.heap.size w w'):IX w0 p pf nm u fs m w':=by
 obtain⟨L,h⟩:=h;exact⟨L,h.below a⟩
theorem IX.bel (h:IX w0 p pf nm u fs m w):Below w0.heap.size w0 w:=by
 obtain⟨L,s,f,g,c,ok,h⟩:=h;exact h.at_.bel
theorem IK.more (h:IK w0 p pf nm u fs m L w) (o:Obj):IK w0 p pf nm u ((w.heap.size,o)::fs) m L (w.alloc o):=by
 obtain⟨s,f,g,c,ok,h⟩:=h;have h1:pf<w.heap.size:=(ai (h.at_.get af)).1;have b:g<w.heap.size:=(ai (h.at_.get (ag _ af))).1;refine⟨s,f,g,c,ok,(h.at_.more o).less (λx a=> ?_),h.kp,h.fm,h.ko,h.cap,λx a=> ?_,λx a=> ?_,h.nm_⟩
 ·simp only[List.mem_cons]at a|-;rcases a with h|h|h|h
  ·exact .inr (.inl h)
  ·exact .inr (.inr (.inl h))
  ·exact .inl h
  ·exact .inr (.inr (.inr h))
 ·rcases au a with rfl|a
  ·exact h.ne _ af
  ·rcases au a with rfl|a
   ·exact Nat.ne_of_gt h1
   ·exact h.ne x (ag _ a)
 ·rcases au a with rfl|a
  ·exact Nat.ne_of_gt b
  ·exact h.neg x a
theorem IK.cJ (h:IK w0 p pf nm u fs m L w) (b:∀x∈gs,x∈fs):IK w0 p pf nm u gs m L w:=by
 obtain⟨s,f,g,c,ok,h⟩:=h;refine⟨s,f,g,c,ok,h.at_.less (λx a=> ?_),h.kp,h.fm,h.ko,h.cap,λx a=> ?_,λx a=>h.neg x (b x a),h.nm_⟩
 ·simp only[List.mem_cons]at a|-;rcases a with h|h|h
  ·exact .inl h
  ·exact .inr (.inl h)
  ·exact .inr (.inr (b x h))
 ·rcases au a with rfl|a
  ·exact h.ne _ af
  ·exact h.ne x (ag _ (b x a))
theorem IX.more (h:IX w0 p pf nm u fs m w) (o:Obj):IX w0 p pf nm u ((w.heap.size,o)::fs) m (w.alloc o):=by
 obtain⟨L,h⟩:=h;exact⟨L,h.more o⟩
theorem IX.cJ (h:IX w0 p pf nm u fs m w) (a:∀x∈gs,x∈fs):IX w0 p pf nm u gs m w:=by
 obtain⟨L,h⟩:=h;exact⟨L,h.cJ a⟩
theorem oh {x:Nat×Obj} (h:x∈([]:List (Nat×Obj))) {P:Prop}:P:=by cases h
theorem Kr {n:Nat} {b:J.B} {o:Obj} (u:Sl w bE (.slice (some ⟨g,0,none⟩) n c) b) (i:b≠[]) (s:w.heap[g]? =some o) (q:(g,o)∈fs):Src w0 p fs (.slice (some ⟨g,0,none⟩) n c) b:=by
 intro gs t w1 l ha;have f:=ha.get (l _ q);have d:g<w1.heap.size:=(ai f).1;rcases u with⟨_,_,e⟩|⟨b',o',c',e,h1,v,a⟩
 ·exact absurd e i
 ·injection e with e1 e2 e3;injection e1 with e1;injection e1 with e1 e4;subst e1 e2 e3 e4;refine .inr ⟨_,0,_,rfl,h1,d,a.1,λr=> ?_⟩;obtain⟨b2,o2,e,_,_,k⟩:=a.2 r;injection e with e;injection e with e1 e2;subst e1 e2;exact⟨_,0,rfl,d,λh=>h,λj m=>(World.cell?_of_block (f.trans s.symm)).trans (k j m)⟩
theorem Ch (b:J.B) (i:b≠[]) (C:Array Value) (d:C=(dK b).toArray) (o:Nat×Nat) (g:Nat):Src w0 p [(g,Obj.cells C 5 o)] (.slice (some ⟨g,0,none⟩) b.length b.length) b:=by
 subst d;intro gs t w1 e ha;have c:=ha.get (e _ af);have a:g<w1.heap.size:=(ai c).1;refine .inr ⟨g,0,_,rfl,aq _,a,rfl,λ_=>⟨g,0,rfl,a,λh=>h,λj f=> ?_⟩⟩;rw[cell_of_row w1 g (0+j) _ _ _ c,Nat.zero_add];unfold dK;simp[f]
theorem Sa (h:IX w0 p pf nm u fs m w) (f:u<=340) (c:X.Bd nm m.ks m.size u) (md:Nat) (a:Bool) {b:J.B} (d:m.open md a=(m',b)):
  Calls Tryz.prog 12 #[.pointer (some ⟨pf,0,none⟩), .int .u8 (md:Nat), .bool a] w λe w'=>e= .returned (.string ⟨b.toArray⟩)/\IX w0 p pf nm (u+1) fs m' w':=by
 obtain⟨L,h⟩:=h;refine(Kk h f c md a).mono ?_;rw[d];rintro e w' ⟨rfl,h⟩;exact⟨rfl,h.ix⟩
theorem Wi (h:IX w0 p pf nm u fs m w) {a:J.B} (b:m.close=(m',a)):
  Calls Tryz.prog 17 #[.pointer (some ⟨pf,0,none⟩)] w λe w'=>e= .returned (.string ⟨a.toArray⟩)/\IX w0 p pf nm (u+1) fs m' w':=by
 obtain⟨L,h⟩:=h;refine(EE h).mono ?_;rw[b];rintro e w' ⟨rfl,h⟩;exact⟨rfl,h.ix⟩
theorem nI (h:IX w0 p pf nm u fs m w) (d:u<=340) (v:Value) (b:J.B) (f:Src w0 p fs v b) {a:J.B} (c:m.write b=(m',a)):
  Calls Tryz.prog 15 #[.pointer (some ⟨pf,0,none⟩),v] w λe w'=>e= .returned (.string ⟨a.toArray⟩)/\IX w0 p pf nm (u+1) fs m' w':=by
 obtain⟨L,h⟩:=h;refine(EG h d v b f).mono ?_;rw[c];rintro e w' ⟨rfl,h⟩;exact⟨rfl,h.ix⟩
theorem II (h:IX w0 p pf nm u fs m w) (d:u<=340) (v:Value) (b:J.B) (f:Src w0 p fs v b) {a:J.B} (c:m.rewrite b=(m',a)):
  Calls Tryz.prog 26 #[.pointer (some ⟨pf,0,none⟩),v] w λe w'=>e= .returned (.string ⟨a.toArray⟩)/\IX w0 p pf nm (u+1) fs m' w':=by
 obtain⟨L,h⟩:=h;refine(xt h d v b f).mono ?_;rw[c];rintro e w' ⟨rfl,h⟩;exact⟨rfl,h.ix⟩
theorem MX (h:IX w0 p pf nm u fs m w) (f:u<=340) (v:Value) (b:J.B) (g:Src w0 p fs v b) (c:b.length<=1000000) {a:J.B} (d:m.delete b=(m',a)):
  Calls Tryz.prog 27 #[.pointer (some ⟨pf,0,none⟩),v] w λe w'=>e= .returned (.string ⟨a.toArray⟩)/\IX w0 p pf nm (u+1) fs m' w':=by
 obtain⟨L,h⟩:=h;refine(zL h f v b g c).mono ?_;rw[d];rintro e w' ⟨rfl,h⟩;exact⟨rfl,h.ix⟩
theorem Sb (h:IX w0 p pf nm u fs m w) (f:u<=340) (k:Int) (r:Nat) (d:r<=5) (v:Value) (b:J.B) (g:Src w0 p fs v b) {a:J.B} (c:m.start k r b=(m',a)):
  Calls Tryz.prog 19 #[.pointer (some ⟨pf,0,none⟩), .int .i64 k, .int .u8 (r:Nat),v] w λe w'=>e= .returned (.string ⟨a.toArray⟩)/\IX w0 p pf nm (u+1) fs m' w':=by
 obtain⟨L,h⟩:=h;refine(EF h f k r d v b g).mono ?_;rw[c];rintro e w' ⟨rfl,h⟩;exact⟨rfl,h.ix⟩
theorem Wj (h:IX w0 p pf nm u fs m w) (g:u<=340) (k:Int) (v:Value) (b:J.B) (i:Src w0 p fs v b) (c:b.length<=1000000) {o:Option J.B} {a:J.B} (d:m.get k b=(m',o,a)):
  Calls Tryz.prog 25 #[.pointer (some ⟨pf,0,none⟩), .int .i64 k,v] w λe w'=>∃v,e= .returned (.tuple #[v, .string ⟨a.toArray⟩])/\bT w' (· <w.heap.size) v (o.getD [])/\IX w0 p pf nm (u+1) fs m' w':=by
 obtain⟨L,h⟩:=h;refine(Ki h g k v b i c).mono ?_;rw[d];rintro e w' ⟨v,rfl,f,h⟩;exact⟨v,rfl,f,h.ix⟩
theorem xy (h:IX w0 p pf nm u fs m w) (d:u<=340) {o:Option J.B} {a:J.B} (b:m.next=(m',o,a)):
  Calls Tryz.prog 20 #[.pointer (some ⟨pf,0,none⟩)] w λe w'=>∃v,e= .returned (.tuple #[v, .string ⟨a.toArray⟩])/\bT w' (· <w.heap.size) v (o.getD [])/\IX w0 p pf nm (u+1) fs m' w':=by
 obtain⟨L,h⟩:=h;refine(Kh h d).mono ?_;rw[b];rintro e w' ⟨v,rfl,c,h⟩;exact⟨v,rfl,c,h.ix⟩
theorem Sc (h:IK w0 p pf nm u fs m L w) (x:u<=340) (j:X.bP [52,55] [1,3] m.mode=X.good) (b:m.lost=false):
  Calls Tryz.prog 20 #[.pointer (some ⟨pf,0,none⟩)] w λe w'=>∃v,e= .returned (.tuple #[v, .string ⟨m.next.2.2.toArray⟩])/\bT w' (· <w.heap.size) v (m.next.2.1.getD [])/\FH w0 p pf nm u fs m.next.1 L w'/\w.grownBy w' (some pf):=by
 obtain⟨s,f,g,c,ok,h⟩:=h;have d:=X.JK h.kp.mok;have q:=h.fm.mode;revert d;unfold X.M.next;rw[if_neg (Decidable.not_not.2 j)];have n:X.bP [52,55] [1,3] f.mode=[48,48]:=by rw[q];exact j
 have t:=X.eK h.kp.mok (Decidable.not_not.2 j);have a:=h.kp.xf x h.nm_ t;rw[if_neg (by rw[b];decide)];obtain⟨y,z⟩:=h.fm.pos (X.ED j) b;have l:f.key<m.ks.length:=by rw[h.fm.key];exact h.kp.mok.key
 have i:afterOf s.now ⟨(X.pre nm f.key).toArray⟩ f.at_ f.same=m.at.map (X.aN nm m.ks f.key):=by
  rw[y,z,h.fm.key];exact a.con.after a.ks a.rows (by have:=a.ct;omega) h.kp.mok.key (by have:=h.kp.mok.at_;omega) (h.kp.mok.pos b) m.same
 cases hr:m.at with
 |some r=>
  rw[hr]at i;intro d;refine(EW h.at_ h.ne af h.ko h.kp.sto.two a n (h.fm.lost.trans b) l r (X.M.at_mem hr) i).mono ?_;rintro e w1 ⟨v,rfl,h1,o,k⟩;refine⟨v, ?_,h1,h.same (m':=m.take r) o d (h.fm.take h.kp.mok r (X.M.at_mem hr)) rfl rfl rfl rfl rfl,k⟩;rw[h.fm.key];rfl
 |none=>
  rw[hr]at i;intro d;refine(EX h.at_ h.ne af h.ko h.kp.sto.two a n (h.fm.lost.trans b) l i).mono ?_;rintro e w1 ⟨rfl,h1,k⟩;exact⟨_,rfl,bT.dV,h.same (m':=m.dW) h1 d h.fm.dW rfl rfl rfl rfl rfl,k⟩
theorem rS (h:IX w0 p pf nm u fs m w) (g:u<=340) (a:X.bP [52,55] [1,3] m.mode=X.good) (f:m.lost=false) {o:Option J.B} {b:J.B} (c:m.next=(m',o,b)):
  Calls Tryz.prog 20 #[.pointer (some ⟨pf,0,none⟩)] w λe w'=>∃v,e= .returned (.tuple #[v, .string ⟨b.toArray⟩])/\bT w' (· <w.heap.size) v (o.getD [])/\IX w0 p pf nm (u+1) fs m' w'/\w.grownBy w' (some pf):=by
 obtain⟨L,h⟩:=h;refine(Sc h g a f).mono ?_;rw[c];rintro e w' ⟨v,rfl,a,h,d⟩;exact⟨v,rfl,a,h.ix,d⟩
theorem Wk (h:IX w0 p pf nm u fs m w) (d:u<=340) (a:Ce nm) (b:m.there=true):
  Calls Tryz.prog 28 #[.pointer (some ⟨p,0,none⟩), .string ⟨nm.toArray⟩] w λe w'=>e= .returned (.int .i64 0)/\Below w.heap.size w w':=by
 obtain⟨L,s,f,g,c,ok,h⟩:=h;exact nZ h.at_ a (h.kp.xf d h.nm_ b)
theorem zM (h:IX w0 p pf nm u [] m w) (g:u<=340) (b:J.B) (d:b≠[]) (C:Array Value) (c:C=(dK b).toArray) {o:Nat×Nat} {a:J.B} (f:m.rewrite b=(m',a)):
  Calls Tryz.prog 26 #[.pointer (some ⟨pf,0,none⟩), .slice (some ⟨w.heap.size,0,none⟩) b.length b.length] (w.alloc (.cells C 5 o)) λe w'=>e= .returned (.string ⟨a.toArray⟩)/\IX w0 p pf nm (u+1) [] m' w':=by
 refine(II (h.more _) g _ b (Ch b d C c o _) f).mono ?_;rintro e w' ⟨rfl,h⟩;exact⟨rfl,h.cJ (λx i=>oh i)⟩
theorem Sd (h:IX w0 p pf nm u [] m w) (i:u<=340) (b:J.B) (d:b≠[]) (f:b.length<=1000000) (C:Array Value) (c:C=(dK b).toArray) {o:Nat×Nat} {a:J.B} (g:m.delete b=(m',a)):
  Calls Tryz.prog 27 #[.pointer (some ⟨pf,0,none⟩), .slice (some ⟨w.heap.size,0,none⟩) b.length b.length] (w.alloc (.cells C 5 o)) λe w'=>e= .returned (.string ⟨a.toArray⟩)/\IX w0 p pf nm (u+1) [] m' w':=by
 refine(MX (h.more _) i _ b (Ch b d C c o _) f g).mono ?_;rintro e w' ⟨rfl,h⟩;exact⟨rfl,h.cJ (λx j=>oh j)⟩
theorem Ci (h:IX w0 p pf nm u [] m w) (i:u<=340) (k:Int) (r:Nat) (g:r<=5) (b:J.B) (d:b≠[]) (C:Array Value) (c:C=(dK b).toArray) {o:Nat×Nat} {a:J.B} (f:m.start k r b=(m',a)):
  Calls Tryz.prog 19 #[.pointer (some ⟨pf,0,none⟩), .int .i64 k, .int .u8 (r:Nat), .slice (some ⟨w.heap.size,0,none⟩) b.length b.length] (w.alloc (.cells C 5 o)) λe w'=>e= .returned (.string ⟨a.toArray⟩)/\IX w0 p pf nm (u+1) [] m' w':=by
 refine(Sb (h.more _) i k r g _ b (Ch b d C c o _) f).mono ?_;rintro e w' ⟨rfl,h⟩;exact⟨rfl,h.cJ (λx j=>oh j)⟩
theorem Sg (h:IX w0 p pf nm u [] m w) (l:u<=340) (k:Int) (b:J.B) (d:b≠[]) (f:b.length<=1000000) (C:Array Value) (c:C=(dK b).toArray) {o:Nat×Nat} {x:Option J.B} {a:J.B} (g:m.get k b=(m',x,a)):
  Calls Tryz.prog 25 #[.pointer (some ⟨pf,0,none⟩), .int .i64 k, .slice (some ⟨w.heap.size,0,none⟩) b.length b.length] (w.alloc (.cells C 5 o)) λe w'=>∃v,e= .returned (.tuple #[v, .string ⟨a.toArray⟩])/\bT w' (· <w.heap.size) v (x.getD [])/\IX w0 p pf nm (u+1) [] m' w':=by
 refine(Wj (h.more _) l k _ b (Ch b d C c o _) f g).mono ?_;rintro e w' ⟨v,rfl,j,h⟩;refine⟨v,rfl,j.weak (λk i=>av i (by simp)),h.cJ (λx n=>oh n)⟩
end
def TL (rb:List (Nat×Obj)) (v:Value) (l:List HP):Prop:=∀(W:World) (M:Nat->Prop),(∀x∈rb,W.heap[x.1]? =some x.2/\¬M x.1)->lU W M v l
def KsK (ko:Obj) (g:Nat) (ks:List X.Ky):Prop:=∀W:World,W.heap[g]? =some ko->dJ W g ks
theorem abp {w:World} {g:Nat} {ks:List X.Ky} (h:dJ w g ks):∃ko,w.heap[g]? =some ko/\KsK ko g ks:=by
 have b:w.heap[g]? =some (w.heap[g]'h.1):=Array.getElem?_eq_getElem h.1;exact⟨_,b,λW a=>⟨(ai a).1,λj u c=>(World.cell?_of_block (a.trans b.symm)).trans (h.2 j u c)⟩⟩
section
variable {w w' : World} {M : Nat -> Prop} {v : Value} {l : List HP}
theorem afo {v:Value} {ts:List Nat} (h:lT w M v ts):∃x:Nat×Obj,(w.heap[x.1]? =some x.2/\¬M x.1)/\∀(W:World) (M':Nat->Prop),W.heap[x.1]? =some x.2->¬M' x.1->lT W M' v ts:=by
 obtain⟨g,c,rfl,h1,d,e⟩:=h;have b:w.heap[g]? =some w.heap[g]:=Array.getElem?_eq_getElem h1;exact⟨(g,w.heap[g]),⟨b,d⟩,λW M' a f=>⟨g,c,rfl,(ai a).1,f,λj i=>(World.cell?_of_block (a.trans b.symm)).trans (e j i)⟩⟩
theorem Sh:∀(l:List HP),(∀x∈l,lT w M x.2 x.1.ts)->∃rb:List (Nat×Obj),(∀x∈rb,w.heap[x.1]? =some x.2/\¬M x.1)/\∀(W:World) (M':Nat->Prop),(∀x∈rb,W.heap[x.1]? =some x.2/\¬M' x.1)->∀x∈l,lT W M' x.2 x.1.ts
 |[],_=>⟨[],λx c=>(by cases c),λW M' _ x c=>by cases c⟩
 |a::t,h=>by
  obtain⟨rb,h1,e⟩:=Sh t (λx c=>h x (ag _ c));obtain⟨x,f,g⟩:=afo (h a af);refine⟨x::rb,λy b=> ?_,λW M' d y b=> ?_⟩
  ·rcases au b with rfl|b
   ·exact f
   ·exact h1 y b
  ·rcases au b with rfl|b
   ·exact g W M' (d x af).1 (d x af).2
   ·exact e W M' (λz i=>d z (ag _ i)) y b
theorem abq (h:lU w M v l):∃rb,TL rb v l/\∀x∈rb,w.heap[x.1]? =some x.2/\¬M x.1:=by
 obtain⟨rb,h1,d⟩:=Sh l h.tm;rcases h.row with e|⟨g,c,e,m,n,o,p⟩
 ·exact⟨rb,λW M' b=>⟨.inl e,d W M' b⟩,h1⟩
 ·have f:w.heap[g]? =some w.heap[g]:=Array.getElem?_eq_getElem n;refine⟨(g,w.heap[g])::rb,λW M' b=> ?_,λx a=> ?_⟩
  ·obtain⟨a1,i⟩:=b _ af;have a1:W.heap[g]? =some w.heap[g]:=a1;exact⟨.inr ⟨g,c,e,m,(ai a1).1,i,λj u k=>(World.cell?_of_block (a1.trans f.symm)).trans (p j u k)⟩,d W M' (λx a=>b x (ag _ a))⟩
  ·rcases au a with rfl|a
   ·exact⟨f,o⟩
   ·exact h1 x a
end
theorem Ks {w:World} {q g c n c':Nat} {m:X.M} {A:Option Addr} (h:w.heap[q]? =some (gz m g c (.slice A n c'))):uF w q:=by
 refine⟨λo u v hh=> ?_,λ⟨_,cur,b,e⟩=> ?_⟩
 ·rw[cell_of_row w q o _ _ _ h,cell_of_row w q (o+1) _ _ _ h]at hh;obtain⟨h1,a⟩:=hh;rcases o with _|_|_|_|_|_|_|_|_|_|_|_|_|_|_|o<;>simp at h1 a
 ·rw[h]at e;injection e with e;injection e with e1 e2;exact absurd e2 (by decide)
def fK (w0:World) (p pf:Nat) (nm:J.B) (u q g c:Nat) (fs:List (Nat×Obj)) (G:List Nat) (D E:X.M) (L:List (List (J.B×J.B))) (v:Value) (l:List HP) (w:World):Prop:=
 ∃ko rb,IK w0 p pf nm u ((q,gz E g c v)::(g,ko)::(rb++fs)) D L w/\KsK ko g E.ks/\TL rb v l/\l.map (·.1)=E.rows/\(∀x∈(g,ko)::(rb++fs),x.1≠q)/\(∀x∈(g,ko)::rb,x.1∉G)/\∀d∈G,∃y∈fs,y.1=d
abbrev H3 (w0:World) (p pf:Nat) (nm:J.B) (u q g c:Nat) (fs:List (Nat×Obj)) (D E:X.M) (L:List (List (J.B×J.B))) (v:Value) (l:List HP) (w:World):Prop:=fK w0 p pf nm u q g c fs [] D E L v l w
section
variable {w0 : World} {p pf q g c : Nat} {nm : J.B} {u I : Nat} {fs gs : List (Nat × Obj)} {G : List Nat} {D F E : X.M} {L K : List (List (J.B × J.B))} {v : Value} {l : List HP} {w w' : World}
theorem IK.get (h:IK w0 p pf nm u fs D L w) {x:Nat×Obj} (a:x∈fs):w.heap[x.1]? =some x.2:=by
 obtain⟨s,f,g,c,ok,h⟩:=h;exact h.at_.get (ag _ (ag _ a))
theorem fK.below (h:fK w0 p pf nm u q g c fs G D E L v l w) (b:Below w.heap.size w w'):fK w0 p pf nm u q g c fs G D E L v l w':=by
 obtain⟨ko,rb,h1,a⟩:=h;exact⟨ko,rb,h1.below b,a⟩
theorem fK.row (h:fK w0 p pf nm u q g c fs G D E L v l w):w.heap[q]? =some (gz E g c v):=by
 obtain⟨ko,rb,h1,_⟩:=h;exact h1.get af
theorem fK.get (h:fK w0 p pf nm u q g c fs G D E L v l w) {x:Nat×Obj} (a:x∈fs):w.heap[x.1]? =some x.2:=by
 obtain⟨ko,rb,h1,_⟩:=h;exact h1.get (ag _ (ag _ (List.mem_append_right _ a)))
theorem fK.bel (h:fK w0 p pf nm u q g c fs G D E L v l w):Below w0.heap.size w0 w:=by
 obtain⟨ko,rb,⟨s,f,g,c,ok,h⟩,_⟩:=h;exact h.at_.bel
theorem fK.cJ (h:fK w0 p pf nm u q g c fs G D E L v l w) (n:∀x∈gs,x∈fs) (m:∀d∈G,∃y∈gs,y.1=d):fK w0 p pf nm u q g c gs G D E L v l w:=by
 obtain⟨ko,rb,h1,e,f,i,j,k,o⟩:=h;have b:∀x∈(g,ko)::(rb++gs),x∈(g,ko)::(rb++fs):=λx a=>by
  simp only[List.mem_cons,List.mem_append]at a|-;rcases a with h|h|h
  ·exact .inl h
  ·exact .inr (.inl h)
  ·exact .inr (.inr (n x h))
 refine⟨ko,rb,h1.cJ (λx a=> ?_),e,f,i,λx a=>j x (b x a),k,m⟩;rcases au a with rfl|a
 ·exact af
 ·exact ag _ (b x a)
theorem IK.add (h:IK w0 p pf nm u fs D L w) (d:Below w.heap.size w w') (b:∀x∈gs,w.heap.size<=x.1/\w'.heap[x.1]? =some x.2):IK w0 p pf nm u (gs++fs) D L w':=by
 obtain⟨s,f,g,c,ok,h⟩:=h;have h1:pf<w.heap.size:=(ai (h.at_.get af)).1;have e:g<w.heap.size:=(ai (h.at_.get (ag _ af))).1;refine⟨s,f,g,c,ok,(h.at_.add d b).less (λx a=> ?_),h.kp,h.fm,h.ko,h.cap,λx a=> ?_,λx a=> ?_,h.nm_⟩
 ·simp only[List.mem_cons,List.mem_append]at a|-;rcases a with h|h|h|h
  ·exact .inr (.inl h)
  ·exact .inr (.inr (.inl h))
  ·exact .inl h
  ·exact .inr (.inr (.inr h))
 ·rcases au a with rfl|a
  ·exact h.ne _ af
  ·rcases List.mem_append.1 a with a|a
   ·have:=(b x a).1;omega
   ·exact h.ne x (ag _ a)
 ·rcases List.mem_append.1 a with a|a
  ·have:=(b x a).1;omega
  ·exact h.neg x a
theorem fK.add (h:fK w0 p pf nm u q g c fs G D E L v l w) (o:Below w.heap.size w w') (f:∀x∈gs,w.heap.size<=x.1/\w'.heap[x.1]? =some x.2):fK w0 p pf nm u q g c (gs++fs) G D E L v l w':=by
 have s:q<w.heap.size:=(ai h.row).1;obtain⟨ko,rb,h1,i,j,k,b,m,n⟩:=h;have t:∀x∈rb,x.1<w.heap.size:=λx a=>(ai (h1.get (ag _ (ag _ (List.mem_append_left _ a))))).1;refine⟨ko,rb,(h1.add o f).cJ (λx a=> ?_),i,j,k,λx a=> ?_,m,λd hd=>by
  obtain⟨y,r,e⟩:=n d hd;exact⟨y,List.mem_append_right _ r,e⟩⟩
 ·simp only[List.mem_cons,List.mem_append]at a|-;rcases a with h|h|h|h|h
  ·exact .inr (.inl h)
  ·exact .inr (.inr (.inl h))
  ·exact .inr (.inr (.inr (.inl h)))
  ·exact .inl h
  ·exact .inr (.inr (.inr (.inr h)))
 ·rcases au a with rfl|a
  ·exact b _ af
  ·rcases List.mem_append.1 a with a|a
   ·exact b x (ag _ (List.mem_append_left _ a))
   ·rcases List.mem_append.1 a with a|a
    ·have:=(f x a).1;omega
    ·exact b x (ag _ (List.mem_append_right _ a))
theorem fK.file (h:fK w0 p pf nm u q g c fs G D E L v l w):∃ks:List (Nat×Obj),(∀x∈fs,x∈ks)/\IK w0 p pf nm u ks D L w/\∀(I:Nat) (F:X.M) (K:List (List (J.B×J.B))) (w':World),IK w0 p pf nm I ks F K w'->fK w0 p pf nm I q g c fs G F E K v l w':=by
 obtain⟨ko,rb,h1,a⟩:=h;exact⟨_,λx b=>ag _ (ag _ (List.mem_append_right _ b)),h1,λI F K w' h=>⟨ko,rb,h,a⟩⟩
theorem fK.keep (h:fK w0 p pf nm u q g c fs G D E L v l w):∃rb,TL rb v l/\fK w0 p pf nm u q g c (rb++fs) G D E L v l w:=by
 obtain⟨ko,rb,h1,f,b,i,j,k,m⟩:=h;refine⟨rb,b,ko,rb,h1.cJ (λx a=> ?_),f,b,i,λx a=>j x ?_,k,λd hd=>by
  obtain⟨y,n,e⟩:=m d hd;exact⟨y,List.mem_append_right _ n,e⟩⟩
 ·simp only[List.mem_cons,List.mem_append]at a|-;rcases a with h|h|h|h|h
  ·exact .inl h
  ·exact .inr (.inl h)
  ·exact .inr (.inr (.inl h))
  ·exact .inr (.inr (.inl h))
  ·exact .inr (.inr (.inr h))
 ·simp only[List.mem_cons,List.mem_append]at a|-;rcases a with h|h|h|h
  ·exact .inl h
  ·exact .inr (.inl h)
  ·exact .inr (.inl h)
  ·exact .inr (.inr h)
theorem TL.sl {rb:List (Nat×Obj)} (h:TL rb v l) (a:∀x∈rb,w.heap[x.1]? =some x.2):∃A c,v= .slice A l.length c:=by
 obtain⟨A,c,e,_⟩:=(h w bE (λx b=>⟨a x b,λh=>h⟩)).aU;exact⟨A,c,e⟩
theorem fK.model (h:fK w0 p pf nm u q g c fs G D E L v l w):∃M:Nat->Prop,(∀k,M k->k<w.heap.size)/\fH w q g c M E v l/\(∀N v' l' w',N.ks=E.ks->HR w q g c M N v' l' w'->fK w0 p pf nm u q g c fs G D N L v' l' w')/\M pf/\
  ∀(x:Nat×Obj) (w':World),Below w.heap.size w w'->w'.heap[x.1]? =some x.2->¬M x.1->∃ks,x∈ks/\IK w0 p pf nm u ks D L w'/\∀(I:Nat) (F:X.M) (K:List (List (J.B×J.B))) (w2:World),IK w0 p pf nm I ks F K w2->fK w0 p pf nm I q g c fs G F E K v l w2:=by
 have S:=h.row;obtain⟨ko,rb,h1,Z,Y,a2,A,V,U⟩:=h;have a6:∀x∈rb,w.heap[x.1]? =some x.2:=λx a=>h1.get (ag _ (ag _ (List.mem_append_left _ a)));have a3:w.heap[g]? =some ko:=h1.get (ag _ af);have W:g≠q:=A _ af;obtain⟨A0,c0,b5⟩:=Y.sl a6;obtain⟨s,f,gf,n,m,b⟩:=h1;obtain⟨M,k1,C,H,O⟩:=b.at_;have c1:q<w.heap.size:=(ai S).1;have b4:w.heap[pf]? =some _:=b.at_.get af;have c2:pf<w.heap.size:=(ai b4).1;have a8:w.heap[gf]? =some m:=b.at_.get (ag _ af);have b8:gf<w.heap.size:=(ai a8).1;have b9:g<w.heap.size:=(ai a3).1;have a5:q≠pf:=b.ne (q,_) (ag _ af);have a4:q≠gf:=b.neg (q,_) af;have b0:uF w q:=by
  rw[b5]at S;exact Ks S
 refine⟨λk=>M k\/k<w0.heap.size\/k=q\/k=pf\/k=gf\/k∈G,λk i=> ?_,⟨S,Z w a3,W,Y w _ (λx a=>⟨a6 x a,λi=> ?_⟩), .inr (.inr (.inl rfl)),a2⟩,λN v' l' w' ek ⟨P,T⟩=> ?_, .inr (.inr (.inr (.inl rfl))),λx w' t a Q=> ?_⟩
 ·rcases i with h|h|h|h|h|h
  ·exact(C k h).2
  ·exact av h H.size
  ·omega
  ·omega
  ·omega
  ·obtain⟨y,d,e⟩:=U k h;subst e;exact(ai (O y (ag _ (ag _ (ag _ (ag _ (List.mem_append_right _ d)))))).2.2).1
 ·have a0:x∈(q,gz E g c v)::(g,ko)::(rb++fs):=ag _ (ag _ (List.mem_append_left _ a));obtain⟨a1,o,_⟩:=O x (ag _ (ag _ a0));rcases i with h|h|h|h|h|h
  ·exact o h
  ·omega
  ·exact A x (ag _ (List.mem_append_left _ a)) h
  ·exact b.ne x (ag _ a0) h
  ·exact b.neg x a0 h
  ·exact V x (ag _ a) h
 ·obtain⟨b7,a9,B⟩:=abq T.rows;have j:∀x∈(pf,ax p nm D.size gf D.ks.length n f)::(gf,m)::(g,ko)::fs,w0.heap.size<=x.1/\¬M x.1/\w'.heap[x.1]? =some x.2:=λx a=>by
   have b6:x∈(pf,ax p nm D.size gf D.ks.length n f)::(gf,m)::(q,gz E g c v)::(g,ko)::(rb++fs):=by
    simp only[List.mem_cons,List.mem_append]at a|-;rcases a with h|h|h|h
    ·exact .inl h
    ·exact .inr (.inl h)
    ·exact .inr (.inr (.inr (.inl h)))
    ·exact .inr (.inr (.inr (.inr (.inr h))))
   obtain⟨a1,o,r⟩:=O x b6;have b3:x.1≠q:=by
    rcases au a with h|h
    ·rw[h];exact a5.symm
    ·rcases au h with h|h
     ·rw[h];exact a4.symm
     ·rcases au h with h|h
      ·rw[h];exact W
      ·exact A x (ag _ (List.mem_append_right _ h))
   exact⟨a1,o,(P.block x.1 (ai r).1 (λe=>b3 (by injection e))).trans r⟩
  obtain⟨g1,g2,_⟩:=O (q,gz E g c v) (ag _ (ag _ af));have hst:=k1.oth b.kp.sto.two (Ai.bg P (λk e=>by injection e with e;subst e;exact⟨g2,b0⟩));have a7:=H.grown P H.size (λk e=>by injection e with e;subst e;exact g1);refine⟨ko,b7,⟨s,f,gf,n,m,⟨⟨M,hst,λk i=>⟨(C k i).1,av (C k i).2 P.size⟩,a7,λx a=> ?_⟩,b.kp,b.fm,b.ko,b.cap,λx a=> ?_,λx a=> ?_,b.nm_⟩⟩,by rw[ek];exact Z,a9,T.eq,λx a=> ?_,λx a=> ?_,U⟩
  ·simp only[List.mem_cons,List.mem_append]at a;rcases a with rfl|rfl|rfl|rfl|a|a
   ·exact j _ af
   ·exact j _ (ag _ af)
   ·exact⟨g1,g2,T.row⟩
   ·exact j _ (ag _ (ag _ af))
   ·obtain⟨b1,b2⟩:=B x a;exact⟨Nat.not_lt.1 (λh=>b2 (.inr (.inl h))),λh=>b2 (.inl h),b1⟩
   ·exact j x (ag _ (ag _ (ag _ a)))
  ·simp only[List.mem_cons,List.mem_append]at a;rcases a with rfl|rfl|rfl|a|a
   ·exact b.ne _ af
   ·exact a5
   ·exact b.ne (g,ko) (ag _ (ag _ af))
   ·exactλe=>(B x a).2 (.inr (.inr (.inr (.inl e))))
   ·exact b.ne x (ag _ (ag _ (ag _ (List.mem_append_right _ a))))
  ·simp only[List.mem_cons,List.mem_append]at a;rcases a with rfl|rfl|a|a
   ·exact a4
   ·exact b.neg (g,ko) (ag _ af)
   ·exactλe=>(B x a).2 (.inr (.inr (.inr (.inr (.inl e)))))
   ·exact b.neg x (ag _ (ag _ (List.mem_append_right _ a)))
  ·rcases au a with rfl|a
   ·exact W
   ·rcases List.mem_append.1 a with a|a
    ·exactλe=>(B x a).2 (.inr (.inr (.inl e)))
    ·exact A x (ag _ (List.mem_append_right _ a))
  ·rcases au a with rfl|a
   ·exact V _ af
   ·exactλe=>(B x a).2 (.inr (.inr (.inr (.inr (.inr e)))))
 ·have h1:IK w0 p pf nm u ((q,gz E g c v)::(g,ko)::(rb++fs)) D L w':=IK.below ⟨s,f,gf,n,m,b⟩ t;refine⟨x::(q,gz E g c v)::(g,ko)::(rb++fs),af,⟨s,f,gf,n,m,⟨?_,b.kp,b.fm,b.ko,b.cap,λy d=> ?_,λy d=> ?_,b.nm_⟩⟩,λI F K w2 h=>⟨ko,rb,h.cJ (λy d=>ag _ d),Z,Y,a2,A,V,U⟩⟩
  ·refine⟨M,k1.below t,λk i=>⟨(C k i).1,av (C k i).2 t.size⟩,H.trans (t.mono H.size),λy d=> ?_⟩;have j:∀z∈(pf,ax p nm D.size gf D.ks.length n f)::(gf,m)::(q,gz E g c v)::(g,ko)::(rb++fs),w0.heap.size<=z.1/\¬M z.1/\w'.heap[z.1]? =some z.2:=λz hz=>by
    obtain⟨a1,o,r⟩:=O z hz;exact⟨a1,o,(t.block z.1 (ai r).1).trans r⟩
   simp only[List.mem_cons]at d;rcases d with rfl|rfl|rfl|d
   ·exact j _ af
   ·exact j _ (ag _ af)
   ·exact⟨Nat.not_lt.1 (λh=>Q (.inr (.inl h))),λh=>Q (.inl h),a⟩
   ·exact j y (ag _ (ag _ (List.mem_cons.2 (by simpa [List.mem_cons] using d))))
  ·rcases au d with rfl|d
   ·exact b.ne _ af
   ·rcases au d with rfl|d
    ·exactλe=>Q (.inr (.inr (.inr (.inl e))))
    ·exact b.ne y (ag _ d)
  ·rcases au d with rfl|d
   ·exactλe=>Q (.inr (.inr (.inr (.inr (.inl e)))))
   ·exact b.neg y d
theorem H3.cJ (h:H3 w0 p pf nm u q g c fs D E L v l w) (a:∀x∈gs,x∈fs):H3 w0 p pf nm u q g c gs D E L v l w:=fK.cJ h a (λd hd=>by cases hd)
end
end Go.Proofs.YtipljcmmokaokaaGreat
namespace Go.Proofs.YtipljcmmokaokaaGreat
theorem abu (ks:List X.Ky):Kl ks.length (λi=>((X.aH ks i).at_:Nat)) (λi=>((X.aH ks i).len:Nat)) (λi=>(X.aH ks i).dup)=ks:=by
 apply List.ext_getElem
 ·rw[ml]
 ·intro i h1 b;have h:=Cb (a:=λi=>((X.aH ks i).at_:Nat)) (l:=λi=>((X.aH ks i).len:Nat)) (d:=λi=>(X.aH ks i).dup) b;have e:∀(l:List X.Ky) (h:i<l.length),X.aH l i=l[i]:=λl h=>by unfold X.aH;simp[h]
  rw[e _ h1]at h;rw[h,<-e ks b];rfl
namespace X
section
variable {m : M}
theorem eZ (m:M) (b:B):(m.write b).1.ks=m.ks/\(m.write b).1.size=m.size/\(m.write b).1.mode=m.mode/\(m.write b).1.there=m.there:=by
 unfold M.write;split
 ·exact⟨rfl,rfl,rfl,rfl⟩
 ·split
  ·exact⟨rfl,rfl,rfl,rfl⟩
  ·split
   ·exact⟨rfl,rfl,rfl,rfl⟩
   ·split<;>exact⟨rfl,rfl,rfl,rfl⟩
end
end X
end Go.Proofs.YtipljcmmokaokaaGreat
namespace Go.Proofs.YtipljcmmokaokaaGreat
open Go.RowKit Go.Lib Go.Maps Go.WideMaps Go.Sort
set_option maxRecDepth 100000
def HX (w0:World) (p pf:Nat) (nm:J.B) (u q g c:Nat) (fs:List (Nat×Obj)) (D E:X.M) (w:World):Prop:=∃L v l,H3 w0 p pf nm u q g c fs D E L v l w
section
variable {w0 : World} {p pf q g c : Nat} {nm : J.B} {u I : Nat} {fs gs : List (Nat × Obj)} {D F E N : X.M} {L : List (List (J.B × J.B))} {w w' : World}
theorem HX.below (h:HX w0 p pf nm u q g c fs D E w) (a:Below w.heap.size w w'):HX w0 p pf nm u q g c fs D E w':=by
 obtain⟨L,v,l,h⟩:=h;exact⟨L,v,l,h.below a⟩
theorem HX.cJ (h:HX w0 p pf nm u q g c fs D E w) (a:∀x∈gs,x∈fs):HX w0 p pf nm u q g c gs D E w:=by
 obtain⟨L,v,l,h⟩:=h;exact⟨L,v,l,h.cJ a⟩
theorem HX.add (h:HX w0 p pf nm u q g c fs D E w) (a:Below w.heap.size w w') (b:∀x∈gs,w.heap.size<=x.1/\w'.heap[x.1]? =some x.2):HX w0 p pf nm u q g c (gs++fs) D E w':=by
 obtain⟨L,v,l,h⟩:=h;exact⟨L,v,l,h.add a b⟩
theorem HX.get (h:HX w0 p pf nm u q g c fs D E w) {x:Nat×Obj} (a:x∈fs):w.heap[x.1]? =some x.2:=by
 obtain⟨L,v,l,h⟩:=h;exact h.get a
theorem HX.bel (h:HX w0 p pf nm u q g c fs D E w):Below w0.heap.size w0 w:=by
 obtain⟨L,v,l,h⟩:=h;exact h.bel
theorem HX.row (h:HX w0 p pf nm u q g c fs D E w):∃v,w.heap[q]? =some (gz E g c v):=by
 obtain⟨L,v,l,h⟩:=h;exact⟨v,h.row⟩
theorem HX.mok (h:HX w0 p pf nm u q g c fs D E w):X.fg u D:=by
 obtain⟨L,v,l,ko,rb,⟨s,f,g,c,ok,h⟩,_⟩:=h;exact h.kp.mok
theorem IK.mono (h:IK w0 p pf nm u fs D L w) (a:u<=I):IK w0 p pf nm I fs D L w:=by
 obtain⟨s,f,g,c,ok,h⟩:=h;exact⟨s,f,g,c,ok,h.at_,⟨h.kp.mok.mono a,h.kp.sto.mono a,h.kp.con,h.kp.hist,h.kp.len⟩,h.fm,h.ko,h.cap,h.ne,h.neg,h.nm_⟩
theorem HX.mono (h:HX w0 p pf nm u q g c fs D E w) (b:u<=I):HX w0 p pf nm I q g c fs D E w:=by
 obtain⟨L,v,l,ko,rb,h,a⟩:=h;exact⟨L,v,l,ko,rb,h.mono b,a⟩
theorem HX.file (h:HX w0 p pf nm u q g c fs D E w):∃ks:List (Nat×Obj),(∀x∈fs,x∈ks)/\IX w0 p pf nm u ks D w/\∀(I:Nat) (F:X.M) (w':World),IX w0 p pf nm I ks F w'->HX w0 p pf nm I q g c fs F E w':=by
 obtain⟨L,v,l,h⟩:=h;obtain⟨ks,h1,a,b⟩:=h.file;exact⟨ks,h1,⟨L,a⟩,λI F w' ⟨K,h⟩=>⟨K,v,l,b I F K w' h⟩⟩
theorem Src.sub {v:Value} {b:J.B} (h:Src w0 p fs v b) (c:∀x∈fs,x∈gs):Src w0 p gs v b:=λks t w1 a ha=>h ks t w1 (λx d=>a x (c x d)) ha
end
def abv (w:World) (A:Option Addr) (L:List J.B):Prop:=0<L.length->∃b o,A=some ⟨b,o,none⟩/\b<w.heap.size/\∀i (h:i<L.length),∃v,w.cell? ⟨b,o+i,none⟩=some v/\Sl w bE v L[i]
theorem abv.below {w w':World} {A:Option Addr} {L:List J.B} (h:abv w A L) (a:Below w.heap.size w w'):abv w' A L:=λj=>by
 obtain⟨b,o,e,c,f⟩:=h j;refine⟨b,o,e,av c a.size,λi g=> ?_⟩;obtain⟨v,h1,d⟩:=f i g;exact⟨v,(a.cell (p:=⟨b,o+i,none⟩) c).trans h1,d.step (Step.aC a)⟩
theorem Wn {w:World} {M:Nat->Prop} {A:Option Addr} {l:J.B} {j:Nat} (h:By w M A l.length l) (g:j<=l.length):By w M A j (l.take j):=by
 refine⟨by rw[List.length_take];omega,λk=> ?_⟩;obtain⟨b,o,e,f,a,c⟩:=h.2 (by omega);refine⟨b,o,e,f,a,λi d=> ?_⟩;rw[List.length_take]at d;rw[c i (by omega),List.getElem_take]
section
variable {w w' : World} {q g c : Nat} {M : Nat -> Prop} {m m' : X.M} {v v' : Value} {l l' : List HP}
theorem MZ (h:fH w q g c M m v l) (r:∀k,M k->k<w.heap.size) (t:bY m l) (md:Nat) (b:Bool):
  Calls Tryz.prog 13 #[.pointer (some ⟨q,0,none⟩), .int .u8 (md:Nat), .bool b] w λe w'=>e= .returned (.string ⟨(m.open md b).2.toArray⟩)/\∃v' l',HR w q g c M (m.open md b).1 v' l' w':=by
 by_cases a:(m.open md b).2=[48,48]
 ·have h1:¬(md<1\/4<md):=λhh=>by
   unfold X.M.open at a;rw[if_pos hh]at a;exact absurd a (show([51,48]:J.B)≠[48,48] by decide)
  have d:m.mode=0:=Classical.byContradiction λhh=>by
   unfold X.M.open at a;rw[if_neg h1,if_pos hh]at a;exact absurd a (show([52,49]:J.B)≠[48,48] by decide)
  have j:¬(md≠2/\m.there=false):=λhh=>by
   unfold X.M.open at a;rw[if_neg h1,if_neg (λf=>f d),if_pos hh]at a;exact absurd a (show([51,53]:J.B)≠[48,48] by decide)
  have s:m.open md b=(m.opened md b,[48,48]):=by
   unfold X.M.open;rw[if_neg h1,if_neg (λf=>f d),if_neg j]
  rw[s];by_cases e2:md=2
  ·subst e2;refine(Mo h b d).mono ?_;rintro e w' ⟨rfl,i⟩;exact⟨rfl,_,_,i⟩
  ·have n:m.there=true:=by
    cases hh:m.there with
    |true=>rfl
    |false=>exact absurd ⟨e2,hh⟩ j
   by_cases o:md=4/\m.rows≠[]
   ·obtain⟨rfl,u⟩:=o;refine(MF h r t b d n u).mono ?_;rintro e w' ⟨rfl,i⟩;exact⟨rfl,_,_,i⟩
   ·refine(MD h md b d (by omega) e2 n (λp=>Classical.byContradiction λf=>o ⟨p,f⟩)).mono ?_;rintro e w' ⟨rfl,i⟩;exact⟨rfl,_,_,i⟩
 ·refine(Mn h md b a).mono ?_;rintro e w' ⟨rfl,rfl,e1⟩;rw[e1];exact⟨rfl,v,l,fz h⟩
end
section
variable {w0 : World} {p pf q g c : Nat} {nm : J.B} {u F : Nat} {fs : List (Nat × Obj)} {G I D : X.M} {w : World}
theorem X.qs (m:X.M) (md:Nat) (a:Bool):(m.open md a).1.ks=m.ks/\(m.open md a).1.size=m.size:=by
 unfold X.M.open;split
 ·exact⟨rfl,rfl⟩
 ·split
  ·exact⟨rfl,rfl⟩
  ·split<;>exact⟨rfl,rfl⟩
end
namespace X
theorem qu (m:M):m.next.1.ks=m.ks:=by
 unfold M.next;split
 ·rfl
 ·split
  ·rfl
  ·split<;>rfl
theorem zN (m:M) (k:Int) (b:B):(m.get k b).1.ks=m.ks:=by
 unfold M.get;split
 ·rfl
 ·split
  ·rfl
  ·split
   ·rfl
   ·split<;>rfl
theorem uz (m:M) (k:Int) (r:Nat) (b:B):(m.start k r b).1.ks=m.ks:=by
 unfold M.start;split
 ·rfl
 ·split
  ·rfl
  ·split<;>rfl
end X
namespace X
theorem px (m:M) (b:B):(m.rewrite b).1.ks=m.ks:=by
 unfold M.rewrite;split
 ·rfl
 ·split
  ·rfl
  ·split
   ·rfl
   ·split
    ·rfl
    ·split
     ·rfl
     ·split<;>rfl
theorem delete_keeps (m:M) (b:B):(m.delete b).1.ks=m.ks:=by
 unfold M.delete;split
 ·rfl
 ·split
  ·rfl
  ·split
   ·rfl
   ·split<;>rfl
end X
end Go.Proofs.YtipljcmmokaokaaGreat
