import Derived.Test.YtipljcmmokaokaaGreatQM10
set_option linter.unusedVariables false
set_option linter.unusedSimpArgs false
namespace Go.Proofs.YtipljcmmokaokaaGreat
open Go.RowKit Go.Lib Go.Maps Go.WideMaps
set_option maxRecDepth 100000
theorem KW {a b c:World} {n:Nat} (h:Below n a b) (k:Below n b c):Below n a c:=
 ⟨k.os.trans h.os,k.tape.trans h.tape,k.output.trans h.output,aw h.size k.size,λi hi=>(k.block i hi).trans (h.block i hi)⟩
theorem ck.drew {w:World} {p:Nat} {M:Nat→Prop} {s:J.St} (h:ck w p M s):ck w.drew p M s:=h.below (ak _ _).drew
end Go.Proofs.YtipljcmmokaokaaGreat
