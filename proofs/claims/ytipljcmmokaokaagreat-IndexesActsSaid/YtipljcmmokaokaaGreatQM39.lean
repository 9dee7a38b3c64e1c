import Derived.Test.YtipljcmmokaokaaGreatQM38
import Derived.Test.YtipljcmmokaokaaGreatQM30
import Derived.Test.YtipljcmmokaokaaGreatQM31
import Derived.Test.YtipljcmmokaokaaGreatQM32
import Derived.Test.YtipljcmmokaokaaGreatQM27
set_option linter.unusedVariables false
set_option linter.unusedSimpArgs false
namespace Go.Proofs.YtipljcmmokaokaaGreat
open Go.RowKit Go.Lib Go.Maps Go.WideMaps Go.Sort
set_option maxRecDepth 100000
def Vl (w:World) (A:Option Addr) (L:List J.B):Prop:=0<L.length→∃b o,A=some ⟨b,o,none⟩∧b<w.heap.size∧∀i (h:i<L.length),∃v,w.cell? ⟨b,o+i,none⟩=some v∧Sl w bF v L[i]
theorem Vl.below {w w':World} {A:Option Addr} {L:List J.B} (h:Vl w A L) (hb:Below w.heap.size w w'):Vl w' A L:=λhn=>by
 obtain⟨b,o,e,hl,hc⟩:=h hn;refine⟨b,o,e,av hl hb.size,λi hi=> ?_⟩;obtain⟨v,h1,h2⟩:=hc i hi;exact⟨v,(hb.cell (p:=⟨b,o+i,none⟩) hl).trans h1,h2.step (Step.aI hb)⟩
theorem QW {w:World} {M:Nat→Prop} {A:Option Addr} {l:J.B} {j:Nat} (h:By w M A l.length l) (hj:j≤l.length):By w M A j (l.take j):=by
 refine⟨by rw[List.length_take];omega,λhn=> ?_⟩;obtain⟨b,o,e,hl,hM,hc⟩:=h.2 (by omega);refine⟨b,o,e,hl,hM,λi hi=> ?_⟩;rw[List.length_take]at hi;rw[hc i (by omega),List.getElem_take]
section
variable {w w' : World} {q g c : Nat} {M : Nat → Prop} {m m' : X.M} {v v' : Value} {l l' : List HP}
theorem Jc (h:ft w q g c M m v l) (hM:∀k,M k→k<w.heap.size) (hf:cj m l) (md:Nat) (od:Bool):
  Calls Tryz.prog 13 #[.pointer (some ⟨q,0,none⟩), .int .u8 (md:Nat), .bool od] w λe w'=>e= .returned (.string ⟨(m.open md od).2.toArray⟩)∧∃v' l',HR w q g c M (m.open md od).1 v' l' w':=by
 by_cases hb:(m.open md od).2=[48,48]
 ·have h1:¬(md<1∨4<md):=λhh=>by
   unfold X.M.open at hb;rw[if_pos hh]at hb;exact absurd hb (show([51,48]:J.B)≠[48,48] by decide)
  have h2:m.mode=0:=Classical.byContradiction λhh=>by
   unfold X.M.open at hb;rw[if_neg h1,if_pos hh]at hb;exact absurd hb (show([52,49]:J.B)≠[48,48] by decide)
  have h3:¬(md≠2∧m.there=false):=λhh=>by
   unfold X.M.open at hb;rw[if_neg h1,if_neg (λhn=>hn h2),if_pos hh]at hb;exact absurd hb (show([51,53]:J.B)≠[48,48] by decide)
  have he:m.open md od=(m.opened md od,[48,48]):=by
   unfold X.M.open;rw[if_neg h1,if_neg (λhn=>hn h2),if_neg h3]
  rw[he];by_cases e2:md=2
  ·subst e2;refine(Ie h od h2).mono ?_;rintro e w' ⟨rfl,hr⟩;exact⟨rfl,_,_,hr⟩
  ·have ht:m.there=true:=by
    cases hh:m.there with
    |true=>rfl
    |false=>exact absurd ⟨e2,hh⟩ h3
   by_cases hx:md=4∧m.rows≠[]
   ·obtain⟨rfl,hne⟩:=hx;refine(IB h hM hf od h2 ht hne).mono ?_;rintro e w' ⟨rfl,hr⟩;exact⟨rfl,_,_,hr⟩
   ·refine(Iz h md od h2 (by omega) e2 ht (λe4=>Classical.byContradiction λhn=>hx ⟨e4,hn⟩)).mono ?_;rintro e w' ⟨rfl,hr⟩;exact⟨rfl,_,_,hr⟩
 ·refine(Ic h md od hb).mono ?_;rintro e w' ⟨rfl,rfl,e1⟩;rw[e1];exact⟨rfl,v,l,fe h⟩
end
section
variable {w0 : World} {p pf q g c : Nat} {nm : J.B} {u u' : Nat} {fs : List (Nat × Obj)} {mf mm QV : X.M} {w : World}
theorem X.pP (m:X.M) (md:Nat) (od:Bool):(m.open md od).1.ks=m.ks∧(m.open md od).1.size=m.size:=by
 unfold X.M.open;split
 ·exact⟨rfl,rfl⟩
 ·split
  ·exact⟨rfl,rfl⟩
  ·split<;>exact⟨rfl,rfl⟩
end
namespace X
theorem pQ (m:M):m.next.1.ks=m.ks:=by
 unfold M.next;split
 ·rfl
 ·split
  ·rfl
  ·split<;>rfl
theorem xw (m:M) (k:Int) (b:B):(m.get k b).1.ks=m.ks:=by
 unfold M.get;split
 ·rfl
 ·split
  ·rfl
  ·split
   ·rfl
   ·split<;>rfl
theorem sQ (m:M) (k:Int) (r:Nat) (b:B):(m.start k r b).1.ks=m.ks:=by
 unfold M.start;split
 ·rfl
 ·split
  ·rfl
  ·split<;>rfl
end X
namespace X
theorem px (m:M) (b:B):(m.rewrite b).1.ks=m.ks:=by
 unfold M.rewrite;split
 ·rfl
 ·split
  ·rfl
  ·split
   ·rfl
   ·split
    ·rfl
    ·split
     ·rfl
     ·split<;>rfl
theorem delete_keeps (m:M) (b:B):(m.delete b).1.ks=m.ks:=by
 unfold M.delete;split
 ·rfl
 ·split
  ·rfl
  ·split
   ·rfl
   ·split<;>rfl
end X
end Go.Proofs.YtipljcmmokaokaaGreat
