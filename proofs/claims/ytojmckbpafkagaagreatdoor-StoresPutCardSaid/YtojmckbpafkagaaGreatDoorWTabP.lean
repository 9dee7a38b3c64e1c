/- The lists of the reserved words, and what a map that holds them answers. Nothing of the program stands here. -/
import Derived.Test.YtojmckbpafkagaaGreatDoorWPlain
import Derived.Maps.OwnOps
import Derived.Maps.Views
namespace Go.Proofs.YtojmckbpafkagaaGreatDoor
namespace WP
set_option maxRecDepth 100000
def keysL : List (List UInt8) := [[65, 67, 67, 69, 83, 83], [65, 68, 86, 65, 78, 67, 73, 78, 71], [65, 70, 84, 69, 82], [65, 76, 76], [65, 76, 80, 72, 65, 66, 69, 84, 73, 67], [65, 76, 83, 79], [65, 76, 84, 69, 82, 78, 65, 84, 69], [65, 78, 68], [65, 78, 89], [65, 82, 69], [65, 82, 69, 65], [65, 82, 69, 65, 83], [65, 83, 67, 69, 78, 68, 73, 78, 71], [65, 83, 83, 73, 71, 78], [65, 84], [65, 87, 65, 89, 45, 70, 82, 79, 77, 45, 90, 69, 82, 79], [66, 69, 70, 79, 82, 69], [66, 73, 78, 65, 82, 89], [66, 76, 65, 78, 75], [66, 76, 79, 67, 75], [66, 89], [67, 70], [67, 72], [67, 72, 65, 82, 65, 67, 84, 69, 82], [67, 72, 65, 82, 65, 67, 84, 69, 82, 83], [67, 76, 65, 83, 83], [67, 79, 76, 85, 77, 78], [67, 79, 77, 80], [67, 79, 77, 80, 45, 51], [67, 79, 77, 80, 85, 84, 65, 84, 73, 79, 78, 65, 76], [67, 79, 77, 80, 85, 84, 65, 84, 73, 79, 78, 65, 76, 45, 51], [67, 79, 78, 70, 73, 71, 85, 82, 65, 84, 73, 79, 78], [67, 79, 78, 84, 65, 73, 78, 83], [67, 79, 78, 84, 69, 78, 84], [67, 79, 78, 84, 82, 79, 76], [67, 79, 78, 84, 82, 79, 76, 83], [67, 79, 78, 86, 69, 82, 84, 73, 78, 71], [67, 79, 80, 89], [67, 79, 82, 82], [67, 79, 82, 82, 69, 83, 80, 79, 78, 68, 73, 78, 71], [67, 79, 85, 78, 84], [68, 65, 84, 65], [68, 69], [68, 69, 67, 76, 65, 82, 65, 84, 73, 86, 69, 83], [68, 69, 76, 73, 77, 73, 84, 69, 68], [68, 69, 76, 73, 77, 73, 84, 69, 82], [68, 69, 80, 69, 78, 68, 73, 78, 71], [68, 69, 83, 67, 69, 78, 68, 73, 78, 71], [68, 69, 84, 65, 73, 76], [68, 73, 86, 73, 83, 73, 79, 78], [68, 79, 87, 78], [68, 85, 80, 76, 73, 67, 65, 84, 69, 83], [68, 89, 78, 65, 77, 73, 67], [69, 76, 83, 69], [69, 78, 68], [69, 78, 68, 45, 65, 68, 68], [69, 78, 68, 45, 67, 65, 76, 76], [69, 78, 68, 45, 67, 79, 77, 80, 85, 84, 69], [69, 78, 68, 45, 68, 69, 76, 69, 84, 69], [69, 78, 68, 45, 68, 73, 86, 73, 68, 69], [69, 78, 68, 45, 69, 86, 65, 76, 85, 65, 84, 69], [69, 78, 68, 45, 73, 70], [69, 78, 68, 45, 77, 85, 76, 84, 73, 80, 76, 89], [69, 78, 68, 45, 80, 69, 82, 70, 79, 82, 77], [69, 78, 68, 45, 82, 69, 65, 68], [69, 78, 68, 45, 82, 69, 84, 85, 82, 78], [69, 78, 68, 45, 82, 69, 87, 82, 73, 84, 69], [69, 78, 68, 45, 83, 69, 65, 82, 67, 72], [69, 78, 68, 45, 83, 84, 65, 82, 84], [69, 78, 68, 45, 83, 84, 82, 73, 78, 71], [69, 78, 68, 45, 83, 85, 66, 84, 82, 65, 67, 84], [69, 78, 68, 45, 85, 78, 83, 84, 82, 73, 78, 71], [69, 78, 68, 45, 87, 82, 73, 84, 69], [69, 78, 86, 73, 82, 79, 78, 77, 69, 78, 84], [69, 81, 85, 65, 76], [69, 82, 82, 79, 82], [69, 88, 67, 69, 80, 84, 73, 79, 78], [69, 88, 84, 69, 78, 68], [70, 65, 76, 83, 69], [70, 68], [70, 73, 76, 69], [70, 73, 76, 69, 45, 67, 79, 78, 84, 82, 79, 76], [70, 73, 76, 76, 69, 82], [70, 73, 78, 65, 76], [70, 73, 82, 83, 84], [70, 79, 79, 84, 73, 78, 71], [70, 79, 82], [70, 82, 79, 77], [71, 73, 86, 73, 78, 71], [71, 82, 69, 65, 84, 69, 82], [71, 82, 79, 85, 80], [72, 69, 65, 68, 73, 78, 71], [73, 45, 79], [73, 45, 79, 45, 67, 79, 78, 84, 82, 79, 76], [73, 68, 69, 78, 84, 73, 70, 73, 67, 65, 84, 73, 79, 78], [73, 78], [73, 78, 68, 69, 88, 69, 68], [73, 78, 68, 73, 67, 65, 84, 69], [73, 78, 73, 84, 73, 65, 76], [73, 78, 80, 85, 84], [73, 78, 80, 85, 84, 45, 79, 85, 84, 80, 85, 84], [73, 78, 84, 79], [73, 78, 86, 65, 76, 73, 68], [73, 83], [74, 85, 83, 84], [74, 85, 83, 84, 73, 70, 73, 69, 68], [75, 69, 89], [76, 65, 66, 69, 76], [76, 65, 83, 84], [76, 69, 65, 68, 73, 78, 71], [76, 69, 70, 84], [76, 69, 83, 83], [76, 73, 77, 73, 84], [76, 73, 77, 73, 84, 83], [76, 73, 78, 69], [76, 73, 78, 69, 83], [76, 73, 78, 75, 65, 71, 69], [77, 79, 68, 69], [78, 69, 65, 82, 69, 83, 84, 45, 65, 87, 65, 89, 45, 70, 82, 79, 77, 45, 90, 69, 82, 79], [78, 69, 65, 82, 69, 83, 84, 45, 69, 86, 69, 78], [78, 69, 65, 82, 69, 83, 84, 45, 84, 79, 87, 65, 82, 68, 45, 90, 69, 82, 79], [78, 69, 71, 65, 84, 73, 86, 69], [78, 69, 88, 84], [78, 79], [78, 79, 84], [78, 85, 77, 66, 69, 82], [78, 85, 77, 69, 82, 73, 67], [79, 67, 67, 85, 82, 83], [79, 70], [79, 70, 70], [79, 77, 73, 84, 84, 69, 68], [79, 78], [79, 80, 84, 73, 79, 78, 65, 76], [79, 82], [79, 82, 68, 69, 82], [79, 82, 71, 65, 78, 73, 90, 65, 84, 73, 79, 78], [79, 84, 72, 69, 82], [79, 85, 84, 80, 85, 84], [79, 86, 69, 82, 70, 76, 79, 87], [80, 65, 67, 75, 69, 68, 45, 68, 69, 67, 73, 77, 65, 76], [80, 65, 71, 69], [80, 70], [80, 72], [80, 73, 67], [80, 73, 67, 84, 85, 82, 69], [80, 76, 85, 83], [80, 79, 73, 78, 84, 69, 82], [80, 79, 83, 73, 84, 73, 86, 69], [80, 82, 79, 67, 69, 68, 85, 82, 69], [80, 82, 79, 67, 69, 69, 68], [80, 82, 79, 71, 82, 65, 77], [80, 82, 79, 71, 82, 65, 77, 45, 73, 68], [80, 82, 79, 72, 73, 66, 73, 84, 69, 68], [82, 65, 78, 68, 79, 77], [82, 68], [82, 69, 67, 79, 82, 68], [82, 69, 67, 79, 82, 68, 83], [82, 69, 68, 69, 70, 73, 78, 69, 83], [82, 69, 70, 69, 82, 69, 78, 67, 69], [82, 69, 76, 65, 84, 73, 86, 69], [82, 69, 77, 65, 73, 78, 68, 69, 82], [82, 69, 78, 65, 77, 69, 83], [82, 69, 80, 76, 65, 67, 73, 78, 71], [82, 69, 80, 79, 82, 84], [82, 69, 80, 79, 82, 84, 73, 78, 71], [82, 69, 80, 79, 82, 84, 83], [82, 69, 83, 69, 84], [82, 70], [82, 72], [82, 73, 71, 72, 84], [82, 79, 85, 78, 68, 69, 68], [82, 85, 78], [83, 67, 82, 69, 69, 78], [83, 68], [83, 69, 67, 84, 73, 79, 78], [83, 69, 76, 69, 67, 84], [83, 69, 78, 84, 69, 78, 67, 69], [83, 69, 80, 65, 82, 65, 84, 69], [83, 69, 81, 85, 69, 78, 67, 69], [83, 69, 81, 85, 69, 78, 84, 73, 65, 76], [83, 73, 71, 78], [83, 73, 90, 69], [83, 79, 85, 82, 67, 69], [83, 84, 65, 78, 68, 65, 82, 68], [83, 84, 65, 84, 85, 83], [83, 85, 77], [84, 65, 76, 76, 89, 73, 78, 71], [84, 69, 83, 84], [84, 72, 65, 78], [84, 72, 69, 78], [84, 72, 82, 79, 85, 71, 72], [84, 72, 82, 85], [84, 73, 77, 69, 83], [84, 79], [84, 79, 87, 65, 82, 68, 45, 71, 82, 69, 65, 84, 69, 82], [84, 79, 87, 65, 82, 68, 45, 76, 69, 83, 83, 69, 82], [84, 82, 65, 73, 76, 73, 78, 71], [84, 82, 85, 69], [84, 82, 85, 78, 67, 65, 84, 73, 79, 78], [84, 89, 80, 69], [85, 78, 84, 73, 76], [85, 80], [85, 80, 79, 78], [85, 83, 65, 71, 69], [85, 83, 73, 78, 71], [86, 65, 76, 85, 69], [86, 65, 76, 85, 69, 83], [86, 65, 82, 89, 73, 78, 71], [87, 72, 69, 78], [87, 73, 84, 72], [87, 79, 82, 75, 73, 78, 71, 45, 83, 84, 79, 82, 65, 71, 69]]
def verbsL : List (List UInt8) := [[65, 67, 67, 69, 80, 84], [65, 68, 68], [65, 76, 84, 69, 82], [67, 65, 76, 76], [67, 65, 78, 67, 69, 76], [67, 76, 79, 83, 69], [67, 79, 77, 80, 85, 84, 69], [67, 79, 78, 84, 73, 78, 85, 69], [68, 69, 76, 69, 84, 69], [68, 73, 83, 80, 76, 65, 89], [68, 73, 86, 73, 68, 69], [69, 86, 65, 76, 85, 65, 84, 69], [69, 88, 73, 84], [71, 69, 78, 69, 82, 65, 84, 69], [71, 79], [73, 70], [73, 78, 73, 84, 73, 65, 76, 73, 90, 69], [73, 78, 73, 84, 73, 65, 84, 69], [73, 78, 83, 80, 69, 67, 84], [77, 69, 82, 71, 69], [77, 79, 86, 69], [77, 85, 76, 84, 73, 80, 76, 89], [79, 80, 69, 78], [80, 69, 82, 70, 79, 82, 77], [82, 69, 65, 68], [82, 69, 76, 69, 65, 83, 69], [82, 69, 84, 85, 82, 78], [82, 69, 87, 82, 73, 84, 69], [83, 69, 65, 82, 67, 72], [83, 69, 84], [83, 79, 82, 84], [83, 84, 65, 82, 84], [83, 84, 79, 80], [83, 84, 82, 73, 78, 71], [83, 85, 66, 84, 82, 65, 67, 84], [83, 85, 80, 80, 82, 69, 83, 83], [84, 69, 82, 77, 73, 78, 65, 84, 69], [85, 78, 83, 84, 82, 73, 78, 71], [85, 83, 69], [87, 82, 73, 84, 69]]
def constsL : List (List UInt8) := [[90, 69, 82, 79], [90, 69, 82, 79, 83], [90, 69, 82, 79, 69, 83], [83, 80, 65, 67, 69], [83, 80, 65, 67, 69, 83], [72, 73, 71, 72, 45, 86, 65, 76, 85, 69], [72, 73, 71, 72, 45, 86, 65, 76, 85, 69, 83], [76, 79, 87, 45, 86, 65, 76, 85, 69], [76, 79, 87, 45, 86, 65, 76, 85, 69, 83], [81, 85, 79, 84, 69], [81, 85, 79, 84, 69, 83]]
/-- Words with a space between them. -/
def joinSp : List (List UInt8) → List UInt8
  | [] => []
  | [x] => x
  | x :: y :: t => x ++ 32 :: joinSp (y :: t)
def keysS : ByteArray := ⟨(joinSp keysL).toArray⟩
def verbsS : ByteArray := ⟨(joinSp verbsL).toArray⟩
def constsS : ByteArray := ⟨(joinSp constsL).toArray⟩
theorem keysS_flds : Lib.fieldsD keysS.data.toList = keysL := by decide +kernel
theorem verbsS_flds : Lib.fieldsD verbsS.data.toList = verbsL := by decide +kernel
theorem constsS_flds : Lib.fieldsD constsS.data.toList = constsL := by decide +kernel

/-- What a map holds behind the storing of a class for each of some words. -/
def ins {H : Type} (D : DataW H) (c : Int) (ws : List (List UInt8)) : DataW H := ws.foldl (fun D x => D.put (.string x) (.lit (.int .u8 c))) D
theorem ins_snoc {H : Type} (D : DataW H) (c : Int) (ws : List (List UInt8)) (x : List UInt8) : ins D c (ws ++ [x]) = (ins D c ws).put (.string x) (.lit (.int .u8 c)) := by
  simp [ins]
theorem ins_take {H : Type} (D : DataW H) (c : Int) (ws : List (List UInt8)) (k : Nat) (hk : k < ws.length) : ins D c (ws.take (k + 1)) = (ins D c (ws.take k)).put (.string ws[k]) (.lit (.int .u8 c)) := by
  rw [List.take_succ_eq_append_getElem hk, ins_snoc]
theorem isMap_ins {H : Type} (c : Int) : ∀ (ws : List (List UInt8)) (D : DataW H), Maps.IsMap D → Maps.IsMap (ins D c ws)
  | [], _, h => h
  | x :: t, D, h => isMap_ins c t (D.put (.string x) (.lit (.int .u8 c))) (Maps.IsMap.put h _ _)
theorem ins_at {H : Type} (c : Int) (l : List UInt8) (z : DataW H) : ∀ (ws : List (List UInt8)) (D : DataW H), Maps.IsMap D →
    (ins D c ws).atKey (.string l) z = if l ∈ ws then .lit (.int .u8 c) else D.atKey (.string l) z
  | [], _, _ => by simp [ins]
  | x :: t, D, h => by
    have ih := ins_at c l z t (D.put (.string x) (.lit (.int .u8 c))) (Maps.IsMap.put h _ _)
    show (ins (D.put (.string x) (.lit (.int .u8 c))) c t).atKey _ _ = _
    rw [ih]
    by_cases h1 : l ∈ t
    · simp [h1]
    · by_cases h2 : l = x
      · subst h2
        rw [if_neg h1, if_pos List.mem_cons_self, Maps.atKey_put_same h (show WideAt.IsKeyLit (.string l) from trivial)]
      · rw [if_neg h1, if_neg (by simp [h1, h2]), Maps.atKey_put_other (by intro e; exact h2 (by injection e))]

/-- The table of the reserved words. -/
def tabD {H : Type} : DataW H := ins (ins (ins (.map []) 1 keysL) 2 verbsL) 3 constsL
/-- The class of a word. -/
def cls (l : List UInt8) : Int := if l ∈ constsL then 3 else if l ∈ verbsL then 2 else if l ∈ keysL then 1 else 0
theorem tabD_at {H : Type} (l : List UInt8) : (tabD (H := H)).atKey (.string l) (.lit (.int .u8 0)) = .lit (.int .u8 (cls l)) := by
  unfold tabD cls
  have h0 : Maps.IsMap (DataW.map [] : DataW H) := Maps.isMap_empty
  have h1 := isMap_ins 1 keysL _ h0
  have h2 := isMap_ins 2 verbsL _ h1
  rw [ins_at _ _ _ _ _ h2, ins_at _ _ _ _ _ h1, ins_at _ _ _ _ _ h0]
  split <;> try rfl
  split <;> try rfl
  split <;> rfl
/-- The lists, by number; what the map holds behind the first i of them. -/
def Lst : Nat → List (List UInt8) | 0 => keysL | 1 => verbsL | _ => constsL
def LstS : Nat → ByteArray | 0 => keysS | 1 => verbsS | _ => constsS
def Dn {H : Type} : Nat → DataW H | 0 => .map [] | i + 1 => ins (Dn i) (1 + (i : Int)) (Lst i)
def cnt : Nat → Nat | 0 => 0 | i + 1 => cnt i + (Lst i).length
theorem Dn3 {H : Type} : Dn (H := H) 3 = tabD := rfl
theorem Lst_len (i : Nat) : (Lst i).length ≤ 300 := by
  have h0 : keysL.length ≤ 300 := by decide +kernel
  have h1 : verbsL.length ≤ 300 := by decide +kernel
  have h2 : constsL.length ≤ 300 := by decide +kernel
  unfold Lst; split <;> assumption
theorem cnt_le : ∀ i, cnt i ≤ 300 * i
  | 0 => Nat.le_refl _
  | i + 1 => by have := cnt_le i; have := Lst_len i; show cnt i + (Lst i).length ≤ _; omega
theorem LstS_flds (i : Nat) : Lib.fieldsD (LstS i).data.toList = Lst i := by
  unfold LstS Lst; split
  · exact keysS_flds
  · exact verbsS_flds
  · exact constsS_flds
theorem LstS_size (i : Nat) : (LstS i).size < 5000 := by
  have h0 : keysS.size < 5000 := by decide +kernel
  have h1 : verbsS.size < 5000 := by decide +kernel
  have h2 : constsS.size < 5000 := by decide +kernel
  unfold LstS; split <;> assumption
theorem Lst_word (i k : Nat) (h : k < (Lst i).length) : ((Lst i)[k]).length ≤ 30 := by
  have h0 : keysL.all (fun x => decide (x.length ≤ 30)) = true := by decide +kernel
  have h1 : verbsL.all (fun x => decide (x.length ≤ 30)) = true := by decide +kernel
  have h2 : constsL.all (fun x => decide (x.length ≤ 30)) = true := by decide +kernel
  have hA : (Lst i).all (fun x => decide (x.length ≤ 30)) = true := by unfold Lst; split <;> assumption
  have := List.all_eq_true.1 hA _ (List.getElem_mem h)
  simpa using this
end WP
end Go.Proofs.YtojmckbpafkagaaGreatDoor
