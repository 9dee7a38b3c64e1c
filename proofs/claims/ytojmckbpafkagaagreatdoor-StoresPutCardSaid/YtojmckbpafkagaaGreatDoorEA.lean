import Derived.Laws.AppendOwn
import Derived.Below
import Derived.Tactics
namespace Go.Ev
open Go Go.RowKit
set_option linter.unusedVariables false
set_option linter.unusedSimpArgs false

/-! ## a table by numbers -/
inductive D8 where
  | d0 | d1 | d2 | d3 | d4 | d5 | d6 | d7
structure N8 (α : Type) where
  mk ::
  c0 : α
  c1 : α
  c2 : α
  c3 : α
  c4 : α
  c5 : α
  c6 : α
  c7 : α
noncomputable def mkq0 {α β : Type} (x : α) (k : N8 α → β) (c0 c1 c2 c3 c4 c5 c6 c7 : α) : β := k (.mk x c1 c2 c3 c4 c5 c6 c7)
noncomputable def upd0 {α β : Type} (x : α) (t : N8 α) (k : N8 α → β) : β := N8.rec (motive := fun _ => β) (mkq0 x k) t
noncomputable def mkq1 {α β : Type} (x : α) (k : N8 α → β) (c0 c1 c2 c3 c4 c5 c6 c7 : α) : β := k (.mk c0 x c2 c3 c4 c5 c6 c7)
noncomputable def upd1 {α β : Type} (x : α) (t : N8 α) (k : N8 α → β) : β := N8.rec (motive := fun _ => β) (mkq1 x k) t
noncomputable def mkq2 {α β : Type} (x : α) (k : N8 α → β) (c0 c1 c2 c3 c4 c5 c6 c7 : α) : β := k (.mk c0 c1 x c3 c4 c5 c6 c7)
noncomputable def upd2 {α β : Type} (x : α) (t : N8 α) (k : N8 α → β) : β := N8.rec (motive := fun _ => β) (mkq2 x k) t
noncomputable def mkq3 {α β : Type} (x : α) (k : N8 α → β) (c0 c1 c2 c3 c4 c5 c6 c7 : α) : β := k (.mk c0 c1 c2 x c4 c5 c6 c7)
noncomputable def upd3 {α β : Type} (x : α) (t : N8 α) (k : N8 α → β) : β := N8.rec (motive := fun _ => β) (mkq3 x k) t
noncomputable def mkq4 {α β : Type} (x : α) (k : N8 α → β) (c0 c1 c2 c3 c4 c5 c6 c7 : α) : β := k (.mk c0 c1 c2 c3 x c5 c6 c7)
noncomputable def upd4 {α β : Type} (x : α) (t : N8 α) (k : N8 α → β) : β := N8.rec (motive := fun _ => β) (mkq4 x k) t
noncomputable def mkq5 {α β : Type} (x : α) (k : N8 α → β) (c0 c1 c2 c3 c4 c5 c6 c7 : α) : β := k (.mk c0 c1 c2 c3 c4 x c6 c7)
noncomputable def upd5 {α β : Type} (x : α) (t : N8 α) (k : N8 α → β) : β := N8.rec (motive := fun _ => β) (mkq5 x k) t
noncomputable def mkq6 {α β : Type} (x : α) (k : N8 α → β) (c0 c1 c2 c3 c4 c5 c6 c7 : α) : β := k (.mk c0 c1 c2 c3 c4 c5 x c7)
noncomputable def upd6 {α β : Type} (x : α) (t : N8 α) (k : N8 α → β) : β := N8.rec (motive := fun _ => β) (mkq6 x k) t
noncomputable def mkq7 {α β : Type} (x : α) (k : N8 α → β) (c0 c1 c2 c3 c4 c5 c6 c7 : α) : β := k (.mk c0 c1 c2 c3 c4 c5 c6 x)
noncomputable def upd7 {α β : Type} (x : α) (t : N8 α) (k : N8 α → β) : β := N8.rec (motive := fun _ => β) (mkq7 x k) t
noncomputable def sel {α : Type} (d : D8) : N8 α → α := D8.rec (motive := fun _ => N8 α → α) N8.c0 N8.c1 N8.c2 N8.c3 N8.c4 N8.c5 N8.c6 N8.c7 d
noncomputable def updK {α β : Type} (d : D8) : α → N8 α → (N8 α → β) → β := D8.rec (motive := fun _ => α → N8 α → (N8 α → β) → β) upd0 upd1 upd2 upd3 upd4 upd5 upd6 upd7 d
def upd {α : Type} (d : D8) (x : α) (t : N8 α) : N8 α := match d, t with
  | .d0, .mk c0 c1 c2 c3 c4 c5 c6 c7 => .mk x c1 c2 c3 c4 c5 c6 c7
  | .d1, .mk c0 c1 c2 c3 c4 c5 c6 c7 => .mk c0 x c2 c3 c4 c5 c6 c7
  | .d2, .mk c0 c1 c2 c3 c4 c5 c6 c7 => .mk c0 c1 x c3 c4 c5 c6 c7
  | .d3, .mk c0 c1 c2 c3 c4 c5 c6 c7 => .mk c0 c1 c2 x c4 c5 c6 c7
  | .d4, .mk c0 c1 c2 c3 c4 c5 c6 c7 => .mk c0 c1 c2 c3 x c5 c6 c7
  | .d5, .mk c0 c1 c2 c3 c4 c5 c6 c7 => .mk c0 c1 c2 c3 c4 x c6 c7
  | .d6, .mk c0 c1 c2 c3 c4 c5 c6 c7 => .mk c0 c1 c2 c3 c4 c5 x c7
  | .d7, .mk c0 c1 c2 c3 c4 c5 c6 c7 => .mk c0 c1 c2 c3 c4 c5 c6 x
theorem updK_eq {α β : Type} (d : D8) (x : α) (t : N8 α) (k : N8 α → β) : updK d x t k = k (upd d x t) := by cases d <;> cases t <;> rfl
theorem sel_same {α : Type} (d : D8) (x : α) (t : N8 α) : sel d (upd d x t) = x := by cases d <;> cases t <;> rfl
theorem sel_ne {α : Type} {d e : D8} (h : d ≠ e) (x : α) (t : N8 α) : sel d (upd e x t) = sel d t := by cases t; cases d <;> cases e <;> first | rfl | exact absurd rfl h
noncomputable def toD (n0 : Nat) : D8 := Nat.rec (motive := fun _ => D8) .d0 (fun n1 _ => Nat.rec (motive := fun _ => D8) .d1 (fun n2 _ => Nat.rec (motive := fun _ => D8) .d2 (fun n3 _ => Nat.rec (motive := fun _ => D8) .d3 (fun n4 _ => Nat.rec (motive := fun _ => D8) .d4 (fun n5 _ => Nat.rec (motive := fun _ => D8) .d5 (fun n6 _ => Nat.rec (motive := fun _ => D8) .d6 (fun n7 _ => .d7) n6) n5) n4) n3) n2) n1) n0
def valD : D8 → Nat | .d0 => 0 | .d1 => 1 | .d2 => 2 | .d3 => 3 | .d4 => 4 | .d5 => 5 | .d6 => 6 | .d7 => 7
theorem valD_toD : ∀ n : Nat, n < 8 → valD (toD n) = n
  | 0, _ => rfl
  | 1, _ => rfl
  | 2, _ => rfl
  | 3, _ => rfl
  | 4, _ => rfl
  | 5, _ => rfl
  | 6, _ => rfl
  | 7, _ => rfl
  | n + 8, h => by omega
theorem toD_inj {a b : Nat} (ha : a < 8) (hb : b < 8) (h : toD a = toD b) : a = b := by rw [← valD_toD a ha, ← valD_toD b hb, h]
inductive Pth where
  | t (a b : D8)
  | s (a b c : D8)
  | b (a b c d e : D8)
  | no
noncomputable def pth (n : Nat) : Pth := Bool.rec (motive := fun _ => Pth) (Bool.rec (motive := fun _ => Pth) .no (.b (toD (Nat.mod (Nat.div n 4096) 8)) (toD (Nat.mod (Nat.div n 512) 8)) (toD (Nat.mod (Nat.div n 64) 8)) (toD (Nat.mod (Nat.div n 8) 8)) (toD (Nat.mod (Nat.div n 1) 8))) (Nat.blt n 32768)) (Bool.rec (motive := fun _ => Pth) (.s (toD (Nat.mod (Nat.div n 64) 8)) (toD (Nat.mod (Nat.div n 8) 8)) (toD (Nat.mod (Nat.div n 1) 8))) (.t (toD (Nat.mod (Nat.div n 8) 8)) (toD (Nat.mod (Nat.div n 1) 8))) (Nat.blt n 64)) (Nat.blt n 512)
inductive Tr (α : Type) where
  | mk (a : N8 (N8 (Option α))) (s : N8 (N8 (N8 (Option α)))) (b : N8 (N8 (N8 (N8 (N8 (Option α)))))) (o : List (Nat × α))
noncomputable def E1 {α : Type} : N8 (Option α) := .mk none none none none none none none none
noncomputable def E2 {α : Type} : N8 (N8 (Option α)) := .mk E1 E1 E1 E1 E1 E1 E1 E1
noncomputable def E3 {α : Type} : N8 (N8 (N8 (Option α))) := .mk E2 E2 E2 E2 E2 E2 E2 E2
noncomputable def E4 {α : Type} : N8 (N8 (N8 (N8 (Option α)))) := .mk E3 E3 E3 E3 E3 E3 E3 E3
noncomputable def E5 {α : Type} : N8 (N8 (N8 (N8 (N8 (Option α))))) := .mk E4 E4 E4 E4 E4 E4 E4 E4
namespace Tr
variable {α : Type}
noncomputable def nil : Tr α := .mk E2 E3 E5 []
noncomputable def oget (l : List (Nat × α)) (n : Nat) : Option α := List.rec (motive := fun _ => Option α) none (fun x _ ih => Bool.rec (motive := fun _ => Option α) ih (some x.2) (Nat.beq n x.1)) l
noncomputable def getT (y z : D8) (t : Tr α) (n : Nat) : Option α := Tr.rec (motive := fun _ => Option α) (fun a _ _ _ => sel z (sel y a)) t
noncomputable def getS (x y z : D8) (t : Tr α) (n : Nat) : Option α := Tr.rec (motive := fun _ => Option α) (fun _ s _ _ => sel z (sel y (sel x s))) t
noncomputable def getB (x y z u v : D8) (t : Tr α) (n : Nat) : Option α := Tr.rec (motive := fun _ => Option α) (fun _ _ b _ => sel v (sel u (sel z (sel y (sel x b))))) t
noncomputable def getO (t : Tr α) (n : Nat) : Option α := Tr.rec (motive := fun _ => Option α) (fun _ _ _ o => oget o n) t
noncomputable def get (t : Tr α) (n : Nat) : Option α := Pth.rec (motive := fun _ => Tr α → Nat → Option α) getT getS getB getO (pth n) t n
noncomputable def setT (y z : D8) (t : Tr α) (n : Nat) (v : α) : Tr α :=
  Tr.rec (motive := fun _ => Tr α) (fun a s b o => updK z (some v) (sel y a) fun u1 => updK y u1 a fun u2 => .mk u2 s b o) t
noncomputable def setS (x y z : D8) (t : Tr α) (n : Nat) (v : α) : Tr α :=
  Tr.rec (motive := fun _ => Tr α) (fun a s b o => (fun s1 => updK z (some v) (sel y s1) fun u1 => updK y u1 s1 fun u2 => updK x u2 s fun u3 => .mk a u3 b o) (sel x s)) t
noncomputable def setB (x y z u w : D8) (t : Tr α) (n : Nat) (v : α) : Tr α :=
  Tr.rec (motive := fun _ => Tr α) (fun a s b o => (fun b1 => (fun b2 => (fun b3 => updK w (some v) (sel u b3) fun u1 => updK u u1 b3 fun u2 => updK z u2 b2 fun u3 => updK y u3 b1 fun u4 => updK x u4 b fun u5 => .mk a s u5 o) (sel z b2)) (sel y b1)) (sel x b)) t
noncomputable def setO (t : Tr α) (n : Nat) (v : α) : Tr α := Tr.rec (motive := fun _ => Tr α) (fun a s b o => .mk a s b ((n, v) :: o)) t
noncomputable def set (t : Tr α) (n : Nat) (v : α) : Tr α := Pth.rec (motive := fun _ => Tr α → Nat → α → Tr α) setT setS setB setO (pth n) t n v
theorem pth_tiny {n : Nat} (h : n < 64) : pth n = .t (toD (n / 8 % 8)) (toD (n / 1 % 8)) := by
  unfold pth
  have e1 : Nat.blt n 512 = true := by simp [Nat.blt]; omega
  have e2 : Nat.blt n 64 = true := by simp [Nat.blt]; omega
  rw [e1, e2]; rfl
theorem pth_small {n : Nat} (h0 : ¬ n < 64) (h : n < 512) : pth n = .s (toD (n / 64 % 8)) (toD (n / 8 % 8)) (toD (n / 1 % 8)) := by
  unfold pth
  have e1 : Nat.blt n 512 = true := by simp [Nat.blt]; omega
  have e2 : Nat.blt n 64 = false := by
    cases hb : Nat.blt n 64
    · rfl
    · exact absurd (by have := Nat.le_of_ble_eq_true hb; omega) h0
  rw [e1, e2]; rfl
theorem pth_mid {n : Nat} (h : ¬ n < 512) (h2 : n < 32768) : pth n = .b (toD (n / 4096 % 8)) (toD (n / 512 % 8)) (toD (n / 64 % 8)) (toD (n / 8 % 8)) (toD (n / 1 % 8)) := by
  unfold pth
  have e1 : Nat.blt n 512 = false := by
    cases hb : Nat.blt n 512
    · rfl
    · exact absurd (by have := Nat.le_of_ble_eq_true hb; omega) h
  have e2 : Nat.blt n 32768 = true := by simp [Nat.blt]; omega
  rw [e1, e2]; rfl
theorem pth_no {n : Nat} (h2 : ¬ n < 32768) : pth n = .no := by
  unfold pth
  have e1 : Nat.blt n 512 = false := by
    cases hb : Nat.blt n 512
    · rfl
    · exact absurd (by have := Nat.le_of_ble_eq_true hb; omega) h2
  have e2 : Nat.blt n 32768 = false := by
    cases hb : Nat.blt n 32768
    · rfl
    · exact absurd (by have := Nat.le_of_ble_eq_true hb; omega) h2
  rw [e1, e2]
/-- The same, said plainly. -/
noncomputable def getP (t : Tr α) (p : Pth) (n : Nat) : Option α := match t, p with
  | .mk a s b o, .t y z => sel z (sel y a)
  | .mk a s b o, .s x y z => sel z (sel y (sel x s))
  | .mk a s b o, .b x y z u v => sel v (sel u (sel z (sel y (sel x b))))
  | .mk a s b o, .no => oget o n
noncomputable def setP (t : Tr α) (p : Pth) (n : Nat) (v : α) : Tr α := match t, p with
  | .mk a s b o, .t y z => .mk (upd y (upd z (some v) (sel y a)) a) s b o
  | .mk a s b o, .s x y z => .mk a (upd x (upd y (upd z (some v) (sel y (sel x s))) (sel x s)) s) b o
  | .mk a s b o, .b x y z u w => .mk a s (upd x (upd y (upd z (upd u (upd w (some v) (sel u (sel z (sel y (sel x b))))) (sel z (sel y (sel x b)))) (sel y (sel x b))) (sel x b)) b) o
  | .mk a s b o, .no => .mk a s b ((n, v) :: o)
theorem get_eq (t : Tr α) (n : Nat) : t.get n = t.getP (pth n) n := by
  unfold get getP; cases t; cases pth n <;> rfl
theorem set_eq (t : Tr α) (n : Nat) (v : α) : t.set n v = t.setP (pth n) n v := by
  unfold set setP; cases t; cases pth n <;> simp only [setT, setS, setB, setO, updK_eq]
theorem oget_cons (x : Nat × α) (l : List (Nat × α)) (n : Nat) : oget (x :: l) n = if n = x.1 then some x.2 else oget l n := by
  show Bool.rec (motive := fun _ => Option α) (oget l n) (some x.2) (Nat.beq n x.1) = _
  cases h : Nat.beq n x.1 with
  | true => rw [if_pos (Nat.eq_of_beq_eq_true h)]
  | false => rw [if_neg (fun e => by subst e; rw [Nat.beq_refl] at h; cases h)]
@[simp] theorem get_nil (n : Nat) : (nil : Tr α).get n = none := by
  rw [get_eq]
  have h1 : ∀ d, sel d (E1 : N8 (Option α)) = none := fun d => by cases d <;> rfl
  have h2 : ∀ d, sel d (E2 : N8 (N8 (Option α))) = E1 := fun d => by cases d <;> rfl
  have h3 : ∀ d, sel d (E3 : N8 (N8 (N8 (Option α)))) = E2 := fun d => by cases d <;> rfl
  have h4 : ∀ d, sel d (E4 : N8 (N8 (N8 (N8 (Option α))))) = E3 := fun d => by cases d <;> rfl
  have h5 : ∀ d, sel d (E5 : N8 (N8 (N8 (N8 (N8 (Option α)))))) = E4 := fun d => by cases d <;> rfl
  unfold nil getP
  cases pth n <;> simp only [h1, h2, h3, h4, h5] <;> rfl
theorem get_set (t : Tr α) (n k : Nat) (x : α) : (t.set n x).get k = if k = n then some x else t.get k := by
  rw [set_eq, get_eq, get_eq]
  obtain ⟨a, s, b, o⟩ := t
  have cases4 : ∀ m : Nat, m < 64 ∨ (¬ m < 64 ∧ m < 512) ∨ (¬ m < 512 ∧ m < 32768) ∨ ¬ m < 32768 := fun m => by omega
  rcases cases4 n with hn | ⟨hn0, hn⟩ | ⟨hn0, hn⟩ | hn
  · rw [pth_tiny hn]
    rcases cases4 k with hk | ⟨hk0, hk⟩ | ⟨hk0, hk⟩ | hk
    · rw [pth_tiny hk]
      simp only [setP, getP]
      by_cases h : k = n
      · subst h; rw [if_pos rfl]; simp only [sel_same]
      · rw [if_neg h]
        by_cases h2 : k / 8 % 8 = n / 8 % 8
        · rw [h2, sel_same]
          rw [sel_ne]
          intro e; have := toD_inj (by omega) (by omega) e; omega
        · rw [sel_ne (fun e => h2 (toD_inj (by omega) (by omega) e))]
    · rw [pth_small hk0 hk, if_neg (by omega)]; rfl
    · rw [pth_mid hk0 hk, if_neg (by omega)]; rfl
    · rw [pth_no hk, if_neg (by omega)]; rfl
  · rw [pth_small hn0 hn]
    rcases cases4 k with hk | ⟨hk0, hk⟩ | ⟨hk0, hk⟩ | hk
    · rw [pth_tiny hk, if_neg (by omega)]; rfl
    · rw [pth_small hk0 hk]
      simp only [setP, getP]
      by_cases h : k = n
      · subst h; rw [if_pos rfl]; simp only [sel_same]
      · rw [if_neg h]
        by_cases h3 : k / 64 % 8 = n / 64 % 8
        · rw [h3, sel_same]
          by_cases h2 : k / 8 % 8 = n / 8 % 8
          · rw [h2, sel_same]
            rw [sel_ne]
            intro e; have := toD_inj (by omega) (by omega) e; omega
          · rw [sel_ne (fun e => h2 (toD_inj (by omega) (by omega) e))]
        · rw [sel_ne (fun e => h3 (toD_inj (by omega) (by omega) e))]
    · rw [pth_mid hk0 hk, if_neg (by omega)]; rfl
    · rw [pth_no hk, if_neg (by omega)]; rfl
  · rw [pth_mid hn0 hn]
    rcases cases4 k with hk | ⟨hk0, hk⟩ | ⟨hk0, hk⟩ | hk
    · rw [pth_tiny hk, if_neg (by omega)]; rfl
    · rw [pth_small hk0 hk, if_neg (by omega)]; rfl
    · rw [pth_mid hk0 hk]
      simp only [setP, getP]
      by_cases h : k = n
      · subst h; rw [if_pos rfl]; simp only [sel_same]
      · rw [if_neg h]
        by_cases h5 : k / 4096 % 8 = n / 4096 % 8
        · rw [h5, sel_same]
          by_cases h4 : k / 512 % 8 = n / 512 % 8
          · rw [h4, sel_same]
            by_cases h3 : k / 64 % 8 = n / 64 % 8
            · rw [h3, sel_same]
              by_cases h2 : k / 8 % 8 = n / 8 % 8
              · rw [h2, sel_same]
                rw [sel_ne]
                intro e; have := toD_inj (by omega) (by omega) e; omega
              · rw [sel_ne (fun e => h2 (toD_inj (by omega) (by omega) e))]
            · rw [sel_ne (fun e => h3 (toD_inj (by omega) (by omega) e))]
          · rw [sel_ne (fun e => h4 (toD_inj (by omega) (by omega) e))]
        · rw [sel_ne (fun e => h5 (toD_inj (by omega) (by omega) e))]
    · rw [pth_no hk, if_neg (by omega)]; rfl
  · rw [pth_no hn]
    rcases cases4 k with hk | ⟨hk0, hk⟩ | ⟨hk0, hk⟩ | hk
    · rw [pth_tiny hk, if_neg (by omega)]; rfl
    · rw [pth_small hk0 hk, if_neg (by omega)]; rfl
    · rw [pth_mid hk0 hk, if_neg (by omega)]; rfl
    · rw [pth_no hk]; simp only [setP, getP]; rw [oget_cons]
end Tr
end Go.Ev
