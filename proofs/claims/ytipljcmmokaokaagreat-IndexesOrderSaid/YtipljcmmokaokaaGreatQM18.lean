import Derived.Test.YtipljcmmokaokaaGreatQM16
set_option linter.unusedVariables false
set_option linter.unusedSimpArgs false
set_option maxHeartbeats 4000000
namespace Go.Proofs.YtipljcmmokaokaaGreat
open Go.RowKit Go.Lib Go.Maps Go.WideMaps Go.Sort
set_option maxRecDepth 100000
structure Ah (w:World) (q g c:Nat) (M:Nat→Prop) (m:X.M) (v:Value) (l:List HP) (vl:Value) (ls:List HP) (W:World):Prop where
 gr:w.grownBy W (some q)
 md:oL W q g c M m v l
 rw_:qP W M vl ls
section
variable {w w' W W' : World} {q g c : Nat} {M : Nat → Prop} {m m' mm : X.M} {v vl : Value} {l ls : List HP}
theorem Ah.below (h:Ah w q g c M m v l vl ls W) (hb:Below W.heap.size W W'):Ah w q g c M m v l vl ls W':=
 ⟨⟨hb.os.trans h.gr.os,hb.tape.trans h.gr.tape,hb.output.trans h.gr.output,au h.gr.size hb.size,fun k hk hn=>(hb.block k (aq hk h.gr.size)).trans (h.gr.block k hk hn)⟩,h.md.below hb,h.rw_.below hb⟩
theorem Ah.set (h:Ah w q g c M m v l vl ls W) (j:Nat) (x:Value) (hr:(W.setCell ⟨q,j,none⟩ x).heap[q]? =some (pQ m' g c v)) (e1:m'.ks=m.ks) (e2:m'.rows=m.rows):Ah w q g c M m' v l vl ls (W.setCell ⟨q,j,none⟩ x):=by
 have hg:=ay (World.grownBy.refl W (some q)) j x;refine⟨ay h.gr j x,h.md.turn hg hr e1 e2,h.rw_.keep hg.size (fun k hk hn=>hg.block k hk (fun e=>hn (by injection e with e;rw[e];exact h.md.nq))) (fun _ _ h=>h)⟩
theorem Ah.drew (h:Ah w q g c M m v l vl ls W):Ah w q g c M m v l vl ls W.drew:=h.below (ai _ _).drew
theorem qP.cellAt {g0 n c0:Nat} (h:qP w M (.slice (some ⟨g0,0,none⟩) n c0) ls) {k:Nat} (hk:k<ls.length):w.cell? ⟨g0,k*2,none⟩=some (encStr ls[k].1.b)∧w.cell? ⟨g0,k*2+1,none⟩=some ls[k].2:=by
 obtain⟨g1,c1,e,h1,h2⟩:=h.cells hk;injection e with e1 e2 e3;injection e1 with e1;injection e1 with e1;subst e1;exact⟨h1,h2⟩
theorem nk.cellAt {gt n ct:Nat} {ts:List Nat} (h:nk w M (.slice (some ⟨gt,0,none⟩) n ct) ts) {i:Nat} (hi:i<ts.length):w.cell? ⟨gt,i,none⟩=some (qO ts[i]):=by
 obtain⟨g1,c1,e,h1⟩:=h.cell hi;injection e with e1 e2 e3;injection e1 with e1;injection e1 with e1;subst e1;exact h1
theorem Ah.cells {g0 n c0:Nat} (h:Ah w q g c M m v l (.slice (some ⟨g0,0,none⟩) n c0) ls W) {k:Nat} (hk:k<ls.length):W.cell? ⟨g0,k*2,none⟩=some (encStr ls[k].1.b)∧W.cell? ⟨g0,k*2+1,none⟩=some ls[k].2:=h.rw_.cellAt hk
theorem Ah.tm {gt n ct:Nat} (h:Ah w q g c M m v l vl ls W) {x:HP} (hx:x∈ls) (hv:x.2= .slice (some ⟨gt,0,none⟩) n ct) {i:Nat} (hi:i<x.1.ts.length):W.cell? ⟨gt,i,none⟩=some (qO (x.1.t i)):=by
 have h1:=h.rw_.tm x hx;rw[hv]at h1;have:=h1.cellAt hi;rw[this];unfold X.Row.t;rw[List.getD_eq_getElem?_getD,List.getElem?_eq_getElem hi];rfl
theorem Ah.part (h:Ah w q g c M mm v l vl ls W) (em:mm.ks=m.ks) (hf:jI m ls) {k:Nat} (hk:k<m.ks.length) {x:HP} (hx:x∈ls):
  Calls Tryz.prog 52 #[.pointer (some ⟨q,0,none⟩), .int .i64 (k:Nat), .string ⟨x.1.b.toArray⟩] W fun e w'=>e= .returned (.string ⟨(X.val m.ks k x.1.b).toArray⟩)∧Below W.heap.size W w':=by
 have h1:=(X.aM.1 (hf.fit x hx)).2 _ (X.aR hk);have h2:=(X.aM.1 (hf.fit x hx)).1;have h3:=hf.ks.size;rw[←em]at hk h1⊢;exact hpart_any h.md.row h.md.ks k hk x.1.b h1 (by omega)
theorem ND (i:Nat) (h:i≤1000000):wrap64 ((i:Int)+1)=((i+1:Nat):Int):=by rw[IntWalk.wrap64_in _ (by omega)];omega
theorem Mk (i:Nat) (h:i≤1000000):IntKind.i64.wrap ((i:Int)+1)=((i+1:Nat):Int):=by rw[IntKind.wrap_i64];omega
end
end Go.Proofs.YtipljcmmokaokaaGreat
