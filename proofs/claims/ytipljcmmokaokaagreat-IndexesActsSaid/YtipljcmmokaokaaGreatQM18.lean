import Derived.Test.YtipljcmmokaokaaGreatQM16
set_option linter.unusedVariables false
set_option linter.unusedSimpArgs false
set_option maxHeartbeats 4000000
namespace Go.Proofs.YtipljcmmokaokaaGreat
open Go.RowKit Go.Lib Go.Maps Go.WideMaps Go.Sort
set_option maxRecDepth 100000
structure kh (w:World) (q g c:Nat) (M:Nat→Prop) (m:X.M) (v:Value) (l:List HP) (vl:Value) (ls:List HP) (W:World):Prop where
 gr:w.grownBy W (some q)
 md:ft W q g c M m v l
 rw_:mP W M vl ls
def TW (ks:List X.Ky) (k:Nat) (ls:List HP) (i:Nat) (b:J.B):Bool:=match ls[i+1]? with
 |some x=>decide (X.val ks k x.1.b=X.val ks k b)
 |none=>false
def tkS (m:X.M) (ls:List HP) (i:Nat) (b:J.B):J.B:=if 0<m.key∧TW m.ks m.key ls i b=true then [48,50]else [48,48]
section
variable {w w' W W' : World} {q g c : Nat} {M : Nat → Prop} {m m' mm : X.M} {v vl : Value} {l ls : List HP}
theorem kh.below (h:kh w q g c M m v l vl ls W) (hb:Below W.heap.size W W'):kh w q g c M m v l vl ls W':=
 ⟨⟨hb.os.trans h.gr.os,hb.tape.trans h.gr.tape,hb.output.trans h.gr.output,aw h.gr.size hb.size,λk hk hn=>(hb.block k (av hk h.gr.size)).trans (h.gr.block k hk hn)⟩,h.md.below hb,h.rw_.below hb⟩
theorem kh.set (h:kh w q g c M m v l vl ls W) (j:Nat) (x:Value) (hr:(W.setCell ⟨q,j,none⟩ x).heap[q]? =some (gF m' g c v)) (e1:m'.ks=m.ks) (e2:m'.rows=m.rows):kh w q g c M m' v l vl ls (W.setCell ⟨q,j,none⟩ x):=by
 have hg:=aA (World.grownBy.refl W (some q)) j x;refine⟨aA h.gr j x,h.md.turn hg hr e1 e2,h.rw_.keep hg.size (λk hk hn=>hg.block k hk (λe=>hn (by injection e with e;rw[e];exact h.md.nq))) (λ_ _ h=>h)⟩
theorem kh.drew (h:kh w q g c M m v l vl ls W):kh w q g c M m v l vl ls W.drew:=h.below (ak _ _).drew
theorem mP.cellAt {g0 n c0:Nat} (h:mP w M (.slice (some ⟨g0,0,none⟩) n c0) ls) {k:Nat} (hk:k<ls.length):w.cell? ⟨g0,k*2,none⟩=some (encStr ls[k].1.b)∧w.cell? ⟨g0,k*2+1,none⟩=some ls[k].2:=by
 obtain⟨g1,c1,e,h1,h2⟩:=h.cells hk;injection e with e1 e2 e3;injection e1 with e1;injection e1 with e1;subst e1;exact⟨h1,h2⟩
theorem mO.cellAt {gt n ct:Nat} {ts:List Nat} (h:mO w M (.slice (some ⟨gt,0,none⟩) n ct) ts) {i:Nat} (hi:i<ts.length):w.cell? ⟨gt,i,none⟩=some (pT ts[i]):=by
 obtain⟨g1,c1,e,h1⟩:=h.cell hi;injection e with e1 e2 e3;injection e1 with e1;injection e1 with e1;subst e1;exact h1
theorem kh.cells {g0 n c0:Nat} (h:kh w q g c M m v l (.slice (some ⟨g0,0,none⟩) n c0) ls W) {k:Nat} (hk:k<ls.length):W.cell? ⟨g0,k*2,none⟩=some (encStr ls[k].1.b)∧W.cell? ⟨g0,k*2+1,none⟩=some ls[k].2:=h.rw_.cellAt hk
theorem kh.tm {gt n ct:Nat} (h:kh w q g c M m v l vl ls W) {x:HP} (hx:x∈ls) (hv:x.2= .slice (some ⟨gt,0,none⟩) n ct) {i:Nat} (hi:i<x.1.ts.length):W.cell? ⟨gt,i,none⟩=some (pT (x.1.t i)):=by
 have h1:=h.rw_.tm x hx;rw[hv]at h1;have:=h1.cellAt hi;rw[this];unfold X.Row.t;rw[List.getD_eq_getElem?_getD,List.getElem?_eq_getElem hi];rfl
theorem kh.part (h:kh w q g c M mm v l vl ls W) (em:mm.ks=m.ks) (hf:cj m ls) {k:Nat} (hk:k<m.ks.length) {x:HP} (hx:x∈ls):
  Calls Tryz.prog 52 #[.pointer (some ⟨q,0,none⟩), .int .i64 (k:Nat), .string ⟨x.1.b.toArray⟩] W λe w'=>e= .returned (.string ⟨(X.val m.ks k x.1.b).toArray⟩)∧Below W.heap.size W w':=by
 have h1:=(X.aR.1 (hf.fit x hx)).2 _ (X.aU hk);have h2:=(X.aR.1 (hf.fit x hx)).1;have h3:=hf.ks.size;rw[←em]at hk h1⊢;exact hpart_any h.md.row h.md.ks k hk x.1.b h1 (by omega)
theorem PG (i:Nat) (h:i≤1000000):wrap64 ((i:Int)+1)=((i+1:Nat):Int):=by rw[IntWalk.wrap64_in _ (by omega)];omega
theorem LR (i:Nat) (h:i≤1000000):IntKind.i64.wrap ((i:Int)+1)=((i+1:Nat):Int):=by rw[IntKind.wrap_i64];omega
theorem xe (h:ft w q g c M m v l) (zr:mP w M vl ls) (hf:cj m ls) (i:Nat) (hi:i<ls.length) (hk:m.key<m.ks.length):
  Calls Tryz.prog 110 #[.pointer (some ⟨q,0,none⟩),vl, .int .i64 (i:Nat)] w λe w'=>e= .returned (.tuple #[.string ⟨(ls[i].1.b).toArray⟩, .string ⟨(tkS m ls i ls[i].1.b).toArray⟩])∧w.grownBy w' (some q)∧ft w' q g c M (m.take ls[i].1) v l:=by
 obtain⟨g0,c0,rfl,_,_⟩:=zr.cells hi;have jO:=hf.ts _ (List.getElem_mem hi);obtain⟨gt,ct,zt,Jz⟩:=(zr.tm _ (List.getElem_mem hi)).cell (i:=m.key) (by rw[jO];exact hk);have cd:(i:Int)<(ls.length:Nat):=by omega
 have TX:(m.key:Int)<(ls[i].1.ts.length:Nat):=by rw[jO];omega
 have HC:=ae (λ(mm:X.M) (W:World) (hS:kh w q g c M mm v l (.slice (some ⟨g0,0,none⟩) ls.length c0) ls W)=>hS.cells hi);have HT:=ae (λ(mm:X.M) (W:World) (hS:kh w q g c M mm v l (.slice (some ⟨g0,0,none⟩) ls.length c0) ls W)=>hS.tm (List.getElem_mem hi) zt (i:=m.key) (by rw[jO];exact hk));have kz:=ae (λ(mm:X.M) (W:World) (em:mm.ks=m.ks) (hS:kh w q g c M mm v l (.slice (some ⟨g0,0,none⟩) ls.length c0) ls W)=>hS.part em hf hk (List.getElem_mem hi));have HP0:=ae (λ(mm:X.M) (W:World) (em:mm.ks=m.ks) (hS:kh w q g c M mm v l (.slice (some ⟨g0,0,none⟩) ls.length c0) ls W)=>hS.part em hf (k:=0) hf.ks.one.1 (List.getElem_mem hi));have uQ:Hid ((TW m.ks m.key ls i ls[i].1.b=false∧¬i+1<ls.length)∨∃y:HP,i+1<ls.length∧(∀(mm:X.M) (W:World),kh w q g c M mm v l (.slice (some ⟨g0,0,none⟩) ls.length c0) ls W→W.cell? ⟨g0,(i+1)*2,none⟩=some (.string ⟨y.1.b.toArray⟩))∧TW m.ks m.key ls i ls[i].1.b=decide (X.val m.ks m.key y.1.b=X.val m.ks m.key ls[i].1.b)∧∀(mm:X.M) (W:World),mm.ks=m.ks→kh w q g c M mm v l (.slice (some ⟨g0,0,none⟩) ls.length c0) ls W→Calls Tryz.prog 52 #[.pointer (some ⟨q,0,none⟩), .int .i64 (m.key:Nat), .string ⟨y.1.b.toArray⟩] W λe w'=>e= .returned (.string ⟨(X.val m.ks m.key y.1.b).toArray⟩)∧Below W.heap.size W w'):=ae (by
  by_cases h1:i+1<ls.length
  ·refine .inr ⟨ls[i+1],h1,λmm W hS=>(hS.cells h1).1, ?_,λmm W em hS=>hS.part em hf hk (List.getElem_mem h1)⟩;unfold TW;rw[List.getElem?_eq_getElem h1]
  ·refine .inl ⟨?_,h1⟩;unfold TW;rw[List.getElem?_eq_none (by omega)])
 have HD:Hid (kh w q g c M m v l (.slice (some ⟨g0,0,none⟩) ls.length c0) ls w.drew):=ae (kh.drew ⟨World.grownBy.refl w _,h,zr⟩);have hib:=hf.len;have wW:=PG i (by omega);have hw2:=LR i (by omega);have nB:=ae (λy:HP=>df (X.val m.ks m.key y.1.b) (X.val m.ks m.key ls[i].1.b));clear Jz;clear jO hf h zr hk hib;generalize ls[i]=x at HC HT kz HP0 uQ zt TX nB⊢;obtain⟨xr,xv⟩:=x;have zt:xv= .slice (some ⟨gt,0,none⟩) xr.ts.length ct:=zt;subst zt;generalize hx:((xr, .slice (some ⟨gt,0,none⟩) xr.ts.length ct):HP)=x at HC HT kz HP0 uQ TX nB⊢;have hx1:x.1=xr:=by rw[←hx]
 have hx2:x.2= .slice (some ⟨gt,0,none⟩) x.1.ts.length ct:=by rw[←hx]
 replace HC:=ae (λmm W hS=>(⟨(HC.out mm W hS).1,(HC.out mm W hS).2.trans (by rw[hx2])⟩:W.cell? ⟨g0,i*2,none⟩=some (.string ⟨x.1.b.toArray⟩)∧W.cell? ⟨g0,i*2+1,none⟩=some (.slice (some ⟨gt,0,none⟩) x.1.ts.length ct)));clear hx hx1 hx2;generalize zu:(⟨(X.val m.ks m.key x.1.b).toArray⟩:ByteArray)=VK at kz nB;go_enter Tryz.func110,Tryz.ntmps110;go_upto_region 1 with fail;refine aD 10 (.rd 0 (.rd 1 (.rd 2 (.rd 3 (.rd 4 (.rd 5 (.rd 6 (.rd 7 (.rd 8 (.rd 9 .fin)))))))))) (λw'=>kh w q g c M m v l (.slice (some ⟨g0,0,none⟩) ls.length c0) ls w') (by kernel_rfl) (by kernel_rfl) (λc a d v w h=>by cases d<;>exact h) HD.out ?_
 iterate 10
  refine az (v:= ?_) (by rfl) (by rfl) (λw' hS=> ?_) (λK hK=> ?_);rotate_left
  ·have hc:=aj w' q hS.md.row;obtain⟨k0,k1⟩:=HC.out m w' hS;have k2:=HT.out m w' hS;clear hS;go_simp;try with_reducible rfl
  go_simp;refine hK _ ?_;clear hK K
 show wpList _ _ _ _ _ _;go_wp2_with fail;refine(kz.out m _ rfl HD.out).mono ?_;rintro e w1 ⟨rfl,hb⟩;have H1:=ae (HD.out.below hb);clear hb HD;have hz1:=aC H1.out.md.row;have hc1:=aj w1 q H1.out.md.row;have H2:=ae (H1.out.set (m':={m with lost:=false}) 9 (.bool false) (aB H1.out.md.row 9 (.bool false)) rfl rfl);have H3:=ae (H2.out.set (m':={m with lost:=false,value:=X.val m.ks m.key x.1.b}) 10 (.string VK) (by rw[←zu];exact aB H2.out.md.row 10 _) rfl rfl);go_upto_region 4 with fail;refine aM (λY=>kh w q g c M {m with lost:=false,value:=X.val m.ks m.key x.1.b} v l (.slice (some ⟨g0,0,none⟩) ls.length c0) ls Y) H3.out ?_;rintro W3 hS3;have DL:=ae hS3.drew;clear hz1 hc1 H1 H2 H3 hS3;refine aD 12 (.rd 0 (.rd 1 (.rd 2 (.rd 3 (.rd 4 (.rd 5 (.rd 6 (.rd 7 (.rd 8 (.rd 9 (.rd 10 (.rd 11 .fin)))))))))))) (λw'=>kh w q g c M {m with lost:=false,value:=X.val m.ks m.key x.1.b} v l (.slice (some ⟨g0,0,none⟩) ls.length c0) ls w') (by kernel_rfl) (by kernel_rfl) (λc a d v w h=>by cases d<;>exact h) DL.out ?_
 iterate 12
  refine az (v:= ?_) (by rfl) (by rfl) (λw' hS=> ?_) (λK hK=> ?_);rotate_left
  ·have hc:=aj w' q hS.md.row;obtain⟨k0,k1⟩:=HC.out {m with lost:=false,value:=X.val m.ks m.key x.1.b} w' hS;have k2:=HT.out {m with lost:=false,value:=X.val m.ks m.key x.1.b} w' hS;clear hS;go_simp;try with_reducible rfl
  go_simp;refine hK _ ?_;clear hK K
 generalize W3.drew=X3 at DL⊢;show wpList _ _ _ _ _ _;have hz3:=aC DL.out.md.row;have hc3:=aj X3 q DL.out.md.row;have H4:=ae (DL.out.set (m':={m with lost:=false,value:=X.val m.ks m.key x.1.b,at_:=x.1.t m.key}) 11 (.int .i64 (x.1.t m.key:Nat)) (aB DL.out.md.row 11 (.int .i64 (x.1.t m.key:Nat))) rfl rfl);have H5:=ae (H4.out.set (m':={m with lost:=false,value:=X.val m.ks m.key x.1.b,at_:=x.1.t m.key,same:=false}) 12 (.bool false) (aB H4.out.md.row 12 (.bool false)) rfl rfl);go_upto_region 6 with fail;refine aM (λY=>kh w q g c M {m with lost:=false,value:=X.val m.ks m.key x.1.b,at_:=x.1.t m.key,same:=false} v l (.slice (some ⟨g0,0,none⟩) ls.length c0) ls Y) H5.out ?_;rintro W5 Pm;have Xb:=ae Pm;clear hz3 hc3 DL H4 H5 Pm;obtain⟨k0,k1⟩:=HC.out _ _ Xb.out;have hc:=aj W5 q Xb.out.md.row;go_wp2_with fail;refine(HP0.out {m with lost:=false,value:=X.val m.ks m.key x.1.b,at_:=x.1.t m.key,same:=false} _ rfl Xb.out).mono ?_;rintro e w6 ⟨rfl,hb⟩;have H6:=ae (Xb.out.below hb);clear hb Xb k0 k1 hc;have hz6:=aC H6.out.md.row;have WM:=aj w6 q H6.out.md.row;have H7:=ae (H6.out.set (m':={m with lost:=false,value:=X.val m.ks m.key x.1.b,at_:=x.1.t m.key,same:=false,last:=X.val m.ks 0 x.1.b}) 13 (.string ⟨(X.val m.ks 0 x.1.b).toArray⟩) (aB H6.out.md.row 13 (.string ⟨(X.val m.ks 0 x.1.b).toArray⟩)) rfl rfl);have H8:=ae (H7.out.set (m':=(m.take x.1)) 14 (.bool true) (aB H7.out.md.row 14 (.bool true)) rfl rfl);go_upto_region 8 with fail;refine aM (λY=>kh w q g c M (m.take x.1) v l (.slice (some ⟨g0,0,none⟩) ls.length c0) ls Y) H8.out ?_;rintro W8 hS8;have OE:=ae hS8.drew;clear hz6 WM H6 H7 H8 hS8;obtain ej|ej:m.key=0∨0<m.key:=by omega
 ·have VR:¬(0:Int)<((m.take x.1).key:Nat):=(by show¬(0:Int)<(m.key:Nat);omega);have Sn:¬0<(m.take x.1).key:=(by show¬0<m.key;omega);have ZL:=ae ej;clear ej;refine aK (.rd 0 (.rd 1 (.rd 2 (.rd 3 (.rd 4 (.rd 5 (.rd 6 (.rd 7 (.rd 8 (.rd 9 (.rd 10 (.rd 11 (.rd 12 (.rd 13 (.rd 14 (.rd 15 (.rd 16 (.rd 17 (.rd 18 (.rd 19 (.rd 20 (.rd 21 (.rd 22 (.rd 23 (.rd 25 (.wr 24 (.rd 26 (.rd 27 .fin)))))))))))))))))))))))))))) (λw'=>kh w q g c M (m.take x.1) v l (.slice (some ⟨g0,0,none⟩) ls.length c0) ls w') (by kernel_rfl) (by kernel_rfl) (λc a d v w h=>by cases d<;>exact h) OE.out ?_
  iterate 6
   refine az (v:= ?_) (by rfl) (by rfl) (λw' hS=> ?_) (λK hK=> ?_);rotate_left
   ·have hc:=aj w' q hS.md.row;clear hS;go_simp;try with_reducible rfl
   go_simp;refine hK _ ?_;clear hK K
  refine ay (by rfl) (by rfl) (λK hK=> ?_);go_simp;refine hK _ ?_;clear hK K;refine ay (by rfl) (by rfl) (λK hK=> ?_);go_simp;refine hK _ ?_;clear hK K;refine ay (by rfl) (by rfl) (λK hK=> ?_);go_simp;refine hK _ ?_;clear hK K;refine ay (by rfl) (by rfl) (λK hK=> ?_);go_simp;refine hK _ ?_;clear hK K;refine ay (by rfl) (by rfl) (λK hK=> ?_);go_simp;refine hK _ ?_;clear hK K
  iterate 2
   refine az (v:= ?_) (by rfl) (by rfl) (λw' hS=> ?_) (λK hK=> ?_);rotate_left
   ·clear hS;go_simp;try with_reducible rfl
   go_simp;refine hK _ ?_;clear hK K
  refine ay (by rfl) (by rfl) (λK hK=> ?_);go_simp;refine hK _ ?_;clear hK K;refine ay (by rfl) (by rfl) (λK hK=> ?_);go_simp;refine hK _ ?_;clear hK K;refine ay (by rfl) (by rfl) (λK hK=> ?_);go_simp;refine hK _ ?_;clear hK K;refine ay (by rfl) (by rfl) (λK hK=> ?_);go_simp;refine hK _ ?_;clear hK K;refine ay (by rfl) (by rfl) (λK hK=> ?_);go_simp;refine hK _ ?_;clear hK K;refine ay (by rfl) (by rfl) (λK hK=> ?_);go_simp;refine hK _ ?_;clear hK K;refine ay (by rfl) (by rfl) (λK hK=> ?_);go_simp;refine hK _ ?_;clear hK K;refine ay (by rfl) (by rfl) (λK hK=> ?_);go_simp;refine hK _ ?_;clear hK K;refine ay (by rfl) (by rfl) (λK hK=> ?_);go_simp;refine hK _ ?_;clear hK K;refine ay (by rfl) (by rfl) (λK hK=> ?_);go_simp;refine hK _ ?_;clear hK K;refine ay (by rfl) (by rfl) (λK hK=> ?_);go_simp;refine hK _ ?_;clear hK K;refine ay (by rfl) (by rfl) (λK hK=> ?_);go_simp;refine hK _ ?_;clear hK K;refine cH (by rfl) (by rfl) (λK hK=> ?_);go_simp;refine hK.out _ _ (λw'=>kh w q g c M (m.take x.1) v l (.slice (some ⟨g0,0,none⟩) ls.length c0) ls w') (λ_ h=>h) OE.out ?_;clear hK K;refine ay (by rfl) (by rfl) (λK hK=> ?_);go_simp;refine hK _ ?_;clear hK K
  iterate 1
   refine az (v:= ?_) (by rfl) (by rfl) (λw' hS=> ?_) (λK hK=> ?_);rotate_left
   ·clear hS;go_simp;try with_reducible rfl
   go_simp;refine hK _ ?_;clear hK K
  show wpList _ _ _ _ _ _;simp only[wpList];have HE:=OE;go_upto_region 10 with fail;obtain⟨k0,k1⟩:=HC.out _ _ HE.out;go_wp2;go_ret2;refine⟨?_,HE.out.gr,HE.out.md⟩;show Ending.returned (.tuple #[.string ⟨x.1.b.toArray⟩, .string ⟨#[48,48]⟩])=_;unfold tkS;rw[if_neg (by have:=ZL.out;omega)]
 ·have VR:(0:Int)<((m.take x.1).key:Nat):=(by show(0:Int)<(m.key:Nat);omega);have Sn:0<(m.take x.1).key:=ej;obtain⟨hno,h1⟩|⟨y,h1,hyc,Xc,hyp⟩:=uQ.out
  ·have abc:¬((i+1:Nat):Int)<(ls.length:Nat):=(by omega);have abd:¬i+1<ls.length:=h1;have abe:¬(i:Int)+1<(ls.length:Nat):=(by omega);have AD:=ae hno;clear hno h1 ej;refine aK (.rd 0 (.rd 1 (.rd 2 (.rd 3 (.rd 4 (.rd 5 (.rd 6 (.rd 7 (.rd 8 (.rd 9 (.rd 10 (.rd 11 (.rd 12 (.rd 13 (.rd 14 (.rd 15 (.rd 16 (.rd 17 (.rd 18 (.rd 19 (.rd 20 (.rd 21 (.rd 22 (.rd 23 (.rd 25 (.wr 24 (.rd 26 (.rd 27 .fin)))))))))))))))))))))))))))) (λw'=>kh w q g c M (m.take x.1) v l (.slice (some ⟨g0,0,none⟩) ls.length c0) ls w') (by kernel_rfl) (by kernel_rfl) (λc a d v w h=>by cases d<;>exact h) OE.out ?_
   iterate 13
    refine az (v:= ?_) (by rfl) (by rfl) (λw' hS=> ?_) (λK hK=> ?_);rotate_left
    ·have hc:=aj w' q hS.md.row;clear hS;go_simp;try with_reducible rfl
    go_simp;refine hK _ ?_;clear hK K
   refine ay (by rfl) (by rfl) (λK hK=> ?_);go_simp;refine hK _ ?_;clear hK K;refine ay (by rfl) (by rfl) (λK hK=> ?_);go_simp;refine hK _ ?_;clear hK K;refine ay (by rfl) (by rfl) (λK hK=> ?_);go_simp;refine hK _ ?_;clear hK K;refine ay (by rfl) (by rfl) (λK hK=> ?_);go_simp;refine hK _ ?_;clear hK K;refine ay (by rfl) (by rfl) (λK hK=> ?_);go_simp;refine hK _ ?_;clear hK K;refine ay (by rfl) (by rfl) (λK hK=> ?_);go_simp;refine hK _ ?_;clear hK K;refine ay (by rfl) (by rfl) (λK hK=> ?_);go_simp;refine hK _ ?_;clear hK K;refine ay (by rfl) (by rfl) (λK hK=> ?_);go_simp;refine hK _ ?_;clear hK K;refine ay (by rfl) (by rfl) (λK hK=> ?_);go_simp;refine hK _ ?_;clear hK K;refine ay (by rfl) (by rfl) (λK hK=> ?_);go_simp;refine hK _ ?_;clear hK K;refine ay (by rfl) (by rfl) (λK hK=> ?_);go_simp;refine hK _ ?_;clear hK K;refine ay (by rfl) (by rfl) (λK hK=> ?_);go_simp;refine hK _ ?_;clear hK K;refine cH (by rfl) (by rfl) (λK hK=> ?_);go_simp;refine hK.out _ _ (λw'=>kh w q g c M (m.take x.1) v l (.slice (some ⟨g0,0,none⟩) ls.length c0) ls w') (λ_ h=>h) OE.out ?_;clear hK K;refine ay (by rfl) (by rfl) (λK hK=> ?_);go_simp;refine hK _ ?_;clear hK K
   iterate 1
    refine az (v:= ?_) (by rfl) (by rfl) (λw' hS=> ?_) (λK hK=> ?_);rotate_left
    ·clear hS;go_simp;try with_reducible rfl
    go_simp;refine hK _ ?_;clear hK K
   show wpList _ _ _ _ _ _;simp only[wpList];have HE:=OE;go_upto_region 10 with fail;obtain⟨k0,k1⟩:=HC.out _ _ HE.out;go_wp2;go_ret2;refine⟨?_,HE.out.gr,HE.out.md⟩;show Ending.returned (.tuple #[.string ⟨x.1.b.toArray⟩, .string ⟨#[48,48]⟩])=_;unfold tkS;rw[if_neg (λhh=>by rw[AD.out]at hh;cases hh.2)]
  ·have abc:((i+1:Nat):Int)<(ls.length:Nat):=(by omega);have abd:i+1<ls.length:=h1;have abe:(i:Int)+1<(ls.length:Nat):=(by omega);have PE:(0:Int)≤(i:Int)+1:=(by omega);have TM:((i:Int)+1).toNat=i+1:=(by omega);have Xd:=ae Xc;have HYC:=ae hyc;have HYP:=ae (hyp (m.take x.1) W8.drew rfl OE.out);have Xe:=ae (nB.out y);have Dg:=ae ej;clear Xc hyc hyp h1 ej;generalize(⟨y.1.b.toArray⟩:ByteArray)=SY at HYC HYP;generalize(⟨(X.val m.ks m.key y.1.b).toArray⟩:ByteArray)=VY at HYP Xe;refine aK (.rd 0 (.rd 1 (.rd 2 (.rd 3 (.rd 4 (.rd 5 (.rd 6 (.rd 7 (.rd 8 (.rd 9 (.rd 10 (.rd 11 (.rd 12 (.rd 13 (.rd 14 (.rd 15 (.rd 16 (.rd 17 (.rd 18 (.rd 19 (.rd 20 (.rd 21 (.rd 22 (.rd 23 (.rd 25 (.wr 24 (.rd 26 (.rd 27 .fin)))))))))))))))))))))))))))) (λw'=>kh w q g c M (m.take x.1) v l (.slice (some ⟨g0,0,none⟩) ls.length c0) ls w') (by kernel_rfl) (by kernel_rfl) (λc a d v w h=>by cases d<;>exact h) OE.out ?_
   iterate 25
    refine az (v:= ?_) (by rfl) (by rfl) (λw' hS=> ?_) (λK hK=> ?_);rotate_left
    ·have hc:=aj w' q hS.md.row;have k5:=HYC.out _ w' hS;clear hS;go_simp;try with_reducible rfl
    go_simp;refine hK _ ?_;clear hK K
   refine wpPm_write (by rfl) (λK hK=> ?_);refine(if_pos (by rfl)).mpr ?_;go_simp;refine HYP.out.mono ?_;rintro e W9 ⟨rfl,hb⟩;have HE:=ae (OE.out.below hb);refine hK.out _ _ (λw'=>kh w q g c M (m.take x.1) v l (.slice (some ⟨g0,0,none⟩) ls.length c0) ls w') (λ_ h=>h) HE.out ?_;clear hK K hb OE;by_cases VW:X.val m.ks m.key y.1.b=X.val m.ks m.key x.1.b
   ·have hq:(VY.toList==VK.toList)=true:=(by rw[Xe.out];exact decide_eq_true VW);have HYE:=ae VW;clear VW Xe
    iterate 2
     refine az (v:= ?_) (by rfl) (by rfl) (λw' hS=> ?_) (λK hK=> ?_);rotate_left
     ·clear hS;go_simp;try with_reducible rfl
     go_simp;refine hK _ ?_;clear hK K
    show wpList _ _ _ _ _ _;simp only[wpList];go_upto_region 9 with fail;obtain⟨k0,k1⟩:=HC.out _ _ HE.out;go_wp2;go_ret2;refine⟨?_,HE.out.gr,HE.out.md⟩;show Ending.returned (.tuple #[.string ⟨x.1.b.toArray⟩, .string ⟨#[48,50]⟩])=_;unfold tkS;rw[if_pos ⟨Dg.out,by rw[Xd.out];exact decide_eq_true HYE.out⟩]
   ·have hq:(VY.toList==VK.toList)=false:=(by rw[Xe.out];exact decide_eq_false VW);have HYE:=ae VW;clear VW Xe
    iterate 2
     refine az (v:= ?_) (by rfl) (by rfl) (λw' hS=> ?_) (λK hK=> ?_);rotate_left
     ·clear hS;go_simp;try with_reducible rfl
     go_simp;refine hK _ ?_;clear hK K
    show wpList _ _ _ _ _ _;simp only[wpList];go_upto_region 10 with fail;obtain⟨k0,k1⟩:=HC.out _ _ HE.out;go_wp2;go_ret2;refine⟨?_,HE.out.gr,HE.out.md⟩;show Ending.returned (.tuple #[.string ⟨x.1.b.toArray⟩, .string ⟨#[48,48]⟩])=_;unfold tkS;rw[if_neg (λhh=>by rw[Xd.out]at hh;exact HYE.out (of_decide_eq_true hh.2))]
end
end Go.Proofs.YtipljcmmokaokaaGreat
