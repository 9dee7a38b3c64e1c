import Derived.Test.YtipljcmmokaokaaGreatQM10
set_option linter.unusedVariables false
set_option linter.unusedSimpArgs false
set_option maxHeartbeats 4000000
namespace Go.Proofs.YtipljcmmokaokaaGreat
open Go.RowKit Go.Lib Go.Maps Go.WideMaps
set_option maxRecDepth 100000
theorem GK {a b c:World} {n:Nat} (h:Below n a b) (k:Below n b c):Below n a c:=
 ⟨k.os.trans h.os,k.tape.trans h.tape,k.output.trans h.output,au h.size k.size,fun i hi=>(k.block i hi).trans (h.block i hi)⟩
theorem cp.drew {w:World} {p:Nat} {M:Nat→Prop} {s:J.St} (h:cp w p M s):cp w.drew p M s:=h.below (ai _ _).drew
end Go.Proofs.YtipljcmmokaokaaGreat
