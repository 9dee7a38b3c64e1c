/- Bytes of a known number converted to a string that is known. -/
import Derived.Test.YtphofgokcfdobaaDoorBytes
namespace Go.Proofs.YtphofgokcfdobaaDoor
open Go.RowKit
theorem wpList_str_n {P : Program} {w : World} {ops : Array Oper} {rest : List Oper} {o : Oper} {a : Act} {Q : Exit → Act → World → Prop}
    (hg : Region.wanted o (yielded ops a.tmps) = true) (x : Operand) (src dst e : TypeId) (hop : o.op = Op.convert src dst x) (A cap n : Nat) (s : ByteArray) (hx : a.eval x = .slice (some ⟨A, 0, none⟩) n cap)
    (hs : P.underlying src = some (.slice e)) (he : P.underlying e = some (.int .u8)) (hd : P.underlying dst = some .string) (hn : s.data.toList.length = n) (eb : TypeId) (hB : BytesAt w eb A s.data.toList)
    (hK : wpList P ops Q rest (a.put o.dst (.string s)) w) :
    wpList P ops Q (o :: rest) a w := by
  subst hn
  refine wpList_str_of hg x src dst e hop A 0 cap s.data.toList hx hs he hd (fun j h => by rw [Nat.zero_add]; exact hB.cell j h) ?_
  have : (⟨s.data.toList.toArray⟩ : ByteArray) = s := rfl
  rw [this]; exact hK
end Go.Proofs.YtphofgokcfdobaaDoor
