import Derived.Test.YtipljcmmokaokaaGreatQDDo1
import Derived.Test.YtipljcmmokaokaaGreatQDDo2
import Derived.Test.YtipljcmmokaokaaGreatQDDo3
set_option linter.unusedVariables false
set_option linter.unusedSimpArgs false
namespace Go.Proofs.YtipljcmmokaokaaGreat
open Go.RowKit Go.Lib Go.Maps Go.WideMaps Go.Sort
set_option maxRecDepth 100000
section
variable {w0 : World} {p pf q g c u : Nat} {nm : J.B} {fs : List (Nat × Obj)} {ds : List Nat} {m : X.M} {L : List (List (J.B × J.B))}
theorem VG (a:X.Ac) (od:Bool) (Av:Option Addr) (cv:Nat) (w:World) (cd:ra w0 p pf nm u q g c fs ds m L a.n Av cv a.val w):
  Calls Tryz.prog 22 #[.pointer (some ⟨pf,0,none⟩), .pointer (some ⟨q,0,none⟩), .agg #[.int .u8 a.what, .int .u8 a.key, .int .u8 a.n, .slice Av a.val.length cv], .bool od] w (Jk w0 p pf nm u q g c fs ds (m.does a od) L):=by
 have hlt:a.what%12<12:=Nat.mod_lt _ (by decide);have e:(a.what:Int).tmod 12=((a.what%12:Nat):Int):=rfl;unfold X.M.does X.Ac.k;generalize a.what%12=c at hlt e
 match c,hlt with
 |0,_=>exact Oh _ _ _ _ _ _ _ _ cd e
 |1,_=>exact Oi _ _ _ _ _ _ _ _ cd e
 |2,_=>exact Oj _ _ _ _ _ _ _ _ cd e
 |3,_=>exact Om _ _ _ _ _ _ _ _ cd e
 |4,_=>exact Oo _ _ _ _ _ _ _ _ cd e
 |5,_=>exact RG _ _ _ _ _ _ _ _ cd e
 |6,_=>exact Jm _ _ _ _ _ _ _ _ cd e
 |7,_=>exact Jn _ _ _ _ _ _ _ _ cd e
 |8,_=>exact Jo _ _ _ _ _ _ _ _ cd e
 |9,_=>exact EU _ _ _ _ _ _ _ _ cd e
 |10,_=>exact Jp _ _ _ _ _ _ _ _ cd e
 |11,_=>exact Ou _ _ _ _ _ _ _ _ cd e
end
end Go.Proofs.YtipljcmmokaokaaGreat
