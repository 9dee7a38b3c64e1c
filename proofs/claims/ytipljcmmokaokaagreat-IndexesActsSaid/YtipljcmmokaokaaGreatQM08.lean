import Derived.Test.YtipljcmmokaokaaGreatQM07
set_option linter.unusedVariables false
set_option linter.unusedSimpArgs false
namespace Go.Proofs.YtipljcmmokaokaaGreat
open Go.RowKit Go.Lib Go.Maps Go.WideMaps
set_option maxRecDepth 100000
abbrev aaU (h0 h1 a0 a1:Value):Value:= .agg #[h0,h1,a0,a1]
def TG (w:World) (M:Nat→Prop) (v:Value) (m:J.eF):Prop:=∃h0 h1 a0 a1,v=aaU h0 h1 a0 a1∧bT w M h0 m.h0∧bT w M h1 m.h1∧bT w M a0 m.a0∧bT w M a1 m.a1
theorem TG.step {w w':World} {M M':Nat→Prop} {v:Value} {m:J.eF} (h:TG w M v m) (hs:Step M M' w w'):TG w' M' v m:=by
 obtain⟨h0,h1,a0,a1,rfl,q0,q1,q2,q3⟩:=h;exact⟨h0,h1,a0,a1,rfl,q0.step hs,q1.step hs,q2.step hs,q3.step hs⟩
theorem Am {a b c:World} {n:Nat} (hn:n≤a.heap.size) (h:Below n a b) (k:Below b.heap.size b c):Below n a c:=
 ⟨k.os.trans h.os,k.tape.trans h.tape,k.output.trans h.output,aw h.size k.size,λi hi=>(k.block i (av hi (aw hn h.size))).trans (h.block i hi)⟩
def nW (w0:World) (I R:Array Value) (w:World):Prop:=w.heap[w0.heap.size]? =some (.cells I 80 (0,0))∧w.heap[w0.heap.size+1]? =some (.cells R 80 (0,0))∧Below w0.heap.size w0 w
section
variable {w0 w w' : World} {I R : Array Value}
theorem nW.lt (h:nW w0 I R w):w0.heap.size+1+1≤w.heap.size:=(ai h.2.1).1
theorem nW.drew (h:nW w0 I R w):nW w0 I R w.drew:=⟨h.1,h.2.1,h.2.2.drew⟩
theorem nW.below (h:nW w0 I R w) (hb:Below w.heap.size w w'):nW w0 I R w':=by
 have:=h.lt;exact⟨(hb.block _ (by omega)).trans h.1,(hb.block _ (by omega)).trans h.2.1,Am (aq _) h.2.2 hb⟩
end
end Go.Proofs.YtipljcmmokaokaaGreat
namespace Go.Proofs.YtipljcmmokaokaaGreat
open Go.RowKit Go.Lib Go.Maps Go.WideMaps Go.Sort Go.Shelf
set_option maxRecDepth 100000
theorem bT.old {w:World} {M:Nat→Prop} {v:Value} {l:List UInt8} (h:bT w M v l):bT w (w.heap.size≤ ·) v l:=by
 rcases h with h|⟨b,o,e,h1,h2,hm,h3⟩
 ·exact .inl h
 ·exact .inr ⟨b,o,e,h1,h2,by have:=h2.1;show¬_≤_;omega,h3.old⟩
theorem en.chs {w:World} {M:Nat→Prop} {base:Nat} {v:Value} {L:List J.bZ} (h:en w M base v L):∃A n c,v= .slice A n c∧Zx w bF A n L∧n=L.length:=by
 obtain⟨vs,h1,h2,h3⟩:=h;rcases h2.2 with⟨rfl,h0⟩|⟨g,cap,cur,rfl,hbase,hb,hc1,hc2,hc3,gR⟩
 ·exact⟨none,0,0,rfl,⟨h0,λh=>absurd h (by omega)⟩,h0.symm⟩
 ·refine⟨_,_,cap,rfl,⟨rfl,λ_=>⟨g,rfl,(ai hb).1,λi hi=> ?_⟩⟩,rfl⟩;have hi':i<vs.length:=(by omega);have hcell:∀j,j<3→w.cell? ⟨g,i*3+j,none⟩=(cS L vs)[i*3+j]? :=λj hj=>h2.cellAt (i*3+j) (by omega);have aaV:∀(L:List J.bZ) (vs:List Value) (i:Nat) (hi:i<L.length) (hi':i<vs.length),(cS L vs)[i*3]? =some (.string ⟨L[i].key.toArray⟩)∧(cS L vs)[i*3+1]? =some vs[i]∧(cS L vs)[i*3+2]? =some (.bool L[i].gone):=by
   intro L
   induction L with
   |nil=>intro vs i hi;simp at hi
   |cons c t ih=>
    intro vs i hi hi';cases vs with
    |nil=>simp at hi'
    |cons x vs=>
     have e:cS (c::t) (x::vs)= .string ⟨c.key.toArray⟩::x:: .bool c.gone::cS t vs:=rfl;cases i with
     |zero=>rw[e];exact⟨rfl,rfl,rfl⟩
     |succ k=>
      have:=ih vs k (by simp at hi;omega) (by simp at hi';omega);rw[e,show(k+1)*3=k*3+3 by omega]
      simpa using this
  obtain⟨e0,e1,e2⟩:=aaV L vs i hi hi';refine⟨vs[i],(hcell 0 (by omega)).trans e0,(hcell 1 (by omega)).trans e1,(hcell 2 (by omega)).trans e2, ?_⟩;exact(h3 i hi hi').sl.weak (λk h=>h.elim)
end Go.Proofs.YtipljcmmokaokaaGreat
namespace Go.Proofs.YtipljcmmokaokaaGreat
open Go.RowKit Go.Lib Go.Maps Go.WideMaps
set_option maxRecDepth 100000
theorem KU {L:List J.bZ} {vs:List Value}:∀{i:Nat} (hi:i<L.length) (hi':i<vs.length),(cS L vs)[i*3]? =some (.string ⟨L[i].key.toArray⟩)∧(cS L vs)[i*3+1]? =some vs[i]∧(cS L vs)[i*3+2]? =some (.bool L[i].gone):=by
 induction L generalizing vs with
 |nil=>intro i hi;simp at hi
 |cons c t ih=>
  intro i hi hi';cases vs with
  |nil=>simp at hi'
  |cons x vs=>
   have e:cS (c::t) (x::vs)= .string ⟨c.key.toArray⟩::x:: .bool c.gone::cS t vs:=rfl;cases i with
   |zero=>rw[e];exact⟨rfl,rfl,rfl⟩
   |succ k=>
    have:=ih (vs:=vs) (i:=k) (by simp at hi;omega) (by simp at hi';omega);rw[e,show(k+1)*3=k*3+3 by omega]
    simpa using this
theorem en.read {w:World} {M:Nat→Prop} {base:Nat} {v:Value} {L:List J.bZ} (h:en w M base v L) {k:Nat} (hk:k<L.length):∃g c x,v= .slice (some ⟨g,0,none⟩) L.length c∧base≤g∧g<w.heap.size∧w.cell? ⟨g,k*3,none⟩=some (.string ⟨L[k].key.toArray⟩)∧w.cell? ⟨g,k*3+1,none⟩=some x∧w.cell? ⟨g,k*3+2,none⟩=some (.bool L[k].gone)∧bT w M x L[k].val:=by
 obtain⟨vs,h1,h2,h3⟩:=h;rcases h2.2 with⟨rfl,h0⟩|⟨g,cap,cur,rfl,hbase,hb,hc1,hc2,hc3,gR⟩
 ·omega
 ·have hcell:∀j,j<3→w.cell? ⟨g,k*3+j,none⟩=(cS L vs)[k*3+j]? :=λj hj=>h2.cellAt (k*3+j) (by omega);obtain⟨e0,e1,e2⟩:=KU hk (show k<vs.length by omega);exact⟨g,cap,vs[k]'(by omega),rfl,hbase,(ai hb).1,(hcell 0 (by omega)).trans e0,(hcell 1 (by omega)).trans e1,(hcell 2 (by omega)).trans e2,(h3 k hk (by omega)).weak (λj hj=> .inl hj)⟩
end Go.Proofs.YtipljcmmokaokaaGreat
