import Derived.Test.YtipljcmmokaokaaGreatQM34
set_option linter.unusedVariables false
set_option linter.unusedSimpArgs false
namespace Go.Proofs.YtipljcmmokaokaaGreat
open Go.RowKit Go.Lib Go.Maps Go.WideMaps Go.Sort
set_option maxRecDepth 100000
theorem Tryz.VA:(Tryz.prog.info? 40).map (λi=>(i.zero,i.size,i.bytes))=some (some (.slice none 0 0),1,24):=by kernel_rfl
theorem EM (A:Addr) (n c:Nat) (w:World) (hc:n≤c):
  Calls Tryz.prog 112 #[.slice (some A) n c] w λe w'=>e= .returned (.slice (some A) n n)∧w=w':=by
 go_enter Tryz.func112,Tryz.ntmps112;go_wp2;go_ret;exact⟨rfl,rfl⟩
theorem EN (w:World):
  Calls Tryz.prog 112 #[.slice none 0 0] w λe w'=>e= .returned (.slice none 0 0)∧w=w':=by
 go_enter Tryz.func112,Tryz.ntmps112;go_wp2;go_ret;exact⟨rfl,rfl⟩
section
variable {W W' : World} {base n n1 n2 : Nat} {e e1 e2 : TypeId} {v v1 v2 : Value} {xs xs1 xs2 : List Value} {rs : List J.B}
theorem NW {l:J.B} {x:Value} (he:e≠5) (h:bT W bF x l) (ho:W.ownsRow base e 1 v n xs) (hg:W.grownBy W' v.ownBlock):bT W' bF x l:=by
 have h1:bT W (λk=>v.ownBlock=some k) x l:=by
  rcases h with h|⟨b,o,e',h1,h2,_,h3⟩
  ·exact .inl h
  ·have hne:¬v.ownBlock=some b:=λhh=>by
    obtain⟨c2,a2⟩:=xb ho hh;obtain⟨_,cur,_,a1⟩:=h2;rw[a1]at a2;injection a2 with a2;injection a2 with _ a2;exact he a2.symm
   refine .inr ⟨b,o,e',h1,h2,hne,h3.1,λhn=> ?_⟩;obtain⟨b',o',e2,q1,_,q3⟩:=h3.2 hn;injection e2 with e2;injection e2 with e2 e3;subst e2 e3;exact⟨_,_,rfl,q1,hne,q3⟩
 exact(h1.step (Step.cC hg (λk e _=>e):Step _ (λk=>v.ownBlock=some k) W W')).weak (λ_ h=>h.elim)
structure AlI (base:Nat) (rs:List J.B) (k:Nat) (o:Value) (w2 W:World):Prop where
 bel:Below w2.heap.size w2 W
 bs:base=w2.heap.size
 vals:∃ys:List Value,W.ownsRow base 40 1 o k ys∧∀i (h:i<ys.length) (h':i<rs.length),bT W bF ys[i] rs[i]
theorem vB {l:J.B} {x:Value} (h:bT W bF x l) (hb:Below W.heap.size W W'):bT W' bF x l:=h.step (Step.aI hb)
theorem ib (W:World) (o:Obj):Below W.heap.size W (W.alloc o):=(ak _ _).alloc (aq _) o
theorem Rw {k:Nat} {o2 x v2:Value} {w3 wr w5 w7:World} {O2:Obj} {ys:List Value} (hI:AlI base rs k o2 w3 wr) (hk:k<rs.length) (h2:wr.ownsRow base 40 1 o2 k ys) (VB:∀i (h:i<ys.length) (h':i<rs.length),bT wr bF ys[i] rs[i])
  (lh:Below wr.heap.size wr w5) (hx:bT w5 bF x rs[k]) (a2:w7.ownsRow base 40 1 v2 (k+1) (ys++[x])) (g2:(w5.alloc O2).grownBy w7 o2.ownBlock):AlI base rs (k+1) v2 w3 w7:=by
 have ade:40≠5:=by decide
 have m5:=cD (cD h2 lh) (ib w5 O2);have b5:Below w3.heap.size w3 (w5.alloc O2):=(hI.bel.trans (lh.mono hI.bel.size)).alloc (aw hI.bel.size lh.size) O2;have b7:=b5.grown g2 b5.size (λj hj=>by rw[←hI.bs];exact(m5.lt j hj).1);have go:∀y l,bT w5 bF y l→bT w7 bF y l:=λy l hy=>NW ade (vB hy (ib w5 O2)) m5 g2;refine⟨b7,hI.bs,ys++[x],a2,λi h h'=> ?_⟩;have hyl:ys.length=k:=by have:=h2.1;omega
 by_cases hik:i<ys.length
 ·rw[List.getElem_append_left hik];exact go _ _ (vB (VB i hik h') lh)
 ·have:i=k:=(by rw[List.length_append,List.length_singleton]at h;omega);subst this;rw[List.getElem_append_right (by omega)]
  simpa [hyl] using go _ _ hx
theorem EO (h:W.ownsRow base 40 1 v n xs):
  Calls Tryz.prog 112 #[v] W λe w'=>∃A,e= .returned (.slice A n n)∧(∀i (h:i<xs.length),∃g,A=some ⟨g,0,none⟩∧g<W.heap.size∧W.cell? ⟨g,i,none⟩=some xs[i])∧W=w':=by
 have h':=h;have hl:=h.1;rcases h.2 with⟨rfl,h0⟩|⟨g,cap,cur,rfl,_,hg,hc,_⟩
 ·subst h0;refine(EN W).mono ?_;rintro e w1 ⟨rfl,rfl⟩;exact⟨none,rfl,λi hi=>by omega,rfl⟩
 ·refine(EM ⟨g,0,none⟩ n cap W hc).mono ?_;rintro e w1 ⟨rfl,rfl⟩;refine⟨_,rfl,λi hi=>⟨g,rfl,(ai hg).1, ?_⟩,rfl⟩;rw[h'.cellAt i (by omega),List.getElem?_eq_getElem hi]
theorem bT.VC {M:Nat→Prop} {l:J.B} (h:bT W M v l):∃A,v= .slice A l.length l.length∧By W M A l.length l:=by
 rcases h with⟨rfl,rfl⟩|⟨b,o,rfl,_,_,_,hb⟩
 ·exact⟨none,rfl,By.ey⟩
 ·exact⟨_,rfl,hb⟩
def Gh (W:World) (A:Option Addr) (rs:List J.B):Prop:=∀i (h:i<rs.length),∃g v,A=some ⟨g,0,none⟩∧g<W.heap.size∧W.cell? ⟨g,i,none⟩=some v∧Sl W bF v rs[i]
theorem Gh.below {A:Option Addr} (h:Gh W A rs) (hb:Below W.heap.size W W'):Gh W' A rs:=λi hi=>by
 obtain⟨g,v,e,h1,h2,h3⟩:=h i hi;exact⟨g,v,e,av h1 hb.size,(hb.cell (p:=⟨g,i,none⟩) h1).trans h2,h3.step (Step.aI hb)⟩
end
end Go.Proofs.YtipljcmmokaokaaGreat
