/- The field of a literal of any kind; what the law's shows returns. -/
import Derived.Test.YtphofgokcfdobaaDoorWLit3
namespace Go.Proofs.YtphofgokcfdobaaDoor
open Go.RowKit Go.Shelf
set_option maxRecDepth 100000

theorem fig_lt (l : List UInt8) (b : Nat) (h : fig l = some b) : b < 256 := by
  have H : ∀ L : List (List UInt8 × Nat), (∀ p ∈ L, p.2 < 256) → figAt L l = some b → b < 256 := by
    intro L
    induction L with
    | nil => intro _ h; simp [figAt] at h
    | cons p t ih =>
      intro hp h
      unfold figAt at h
      split at h
      · injection h with h; rw [← h]; exact hp p List.mem_cons_self
      · exact ih (fun q hq => hp q (List.mem_cons_of_mem _ hq)) h
  exact H figs (by decide) h

theorem literal_any (k : Int) (t : ByteArray) (line col : Int) (left : Bool) (w : World) (hE : Env w) (hs : t.size ≤ 100000) :
    Calls Tryd.prog 16 #[tokV k t line col left] w (LitPost w (litR k t.data.toList)) := by
  by_cases h2 : k = 2
  · subst h2
    exact literal_num t line col left w hE hs
  by_cases h3 : k = 3
  · subst h3
    exact literal_text t line col left w hE hs
  by_cases h1 : k = 1
  · subst h1
    rw [litR, if_neg (by decide), if_neg (by decide), if_pos rfl]
    rcases hf : fig t.data.toList with _ | b
    · exact literal_word t 1 line col left w rfl hf
    · by_cases hb : b = 48
      · subst hb
        exact literal_zero t line col left w hE hs hf
      · have hlt := fig_lt _ _ hf
        have e : (UInt8.ofNat b).toNat = b := by rw [UInt8.toNat_ofNat']; exact Nat.mod_eq_of_lt hlt
        simp only [if_neg hb]
        exact literal_fig t line col left w hE hs (UInt8.ofNat b) (by rw [e]; exact hf) (by rw [e]; simp; omega)
  · rw [litR, if_neg h2, if_neg h3, if_neg h1]
    exact literal_kind t k line col left w (by simpa using h1) (by simpa using h2) (by simpa using h3)

/-- What shows returns. -/
def showsR (r : Except Int Fld) (pic b : List UInt8) : Bool :=
  match r with
  | .error _ => false
  | .ok f => f.pic == pic && (f.bytes == b && f.bytes.length == b.length)
/-- Only errors that are not 0. -/
def ErrOk : Except Int Fld → Prop
  | .error c => c ≠ 0
  | .ok _ => True
theorem textR_ok (l : List UInt8) : ErrOk (textR l) := by unfold textR; split <;> simp [ErrOk]
theorem numR_ok (l : List UInt8) : ErrOk (numR l) := by unfold numR; split <;> (try split) <;> simp [ErrOk]
theorem litR_ok (k : Int) (l : List UInt8) : ErrOk (litR k l) := by
  unfold litR
  split
  · exact numR_ok l
  split
  · exact textR_ok l
  split
  · split
    · simp [ErrOk]
    · split
      · exact numR_ok _
      · exact textR_ok _
  · simp [ErrOk]

set_option maxHeartbeats 4000000 in
theorem shows_any (k : Int) (s pic b : ByteArray) (w : World) (hE : Env w) (hs : s.size ≤ 100000) :
    Calls Tryd.prog 20 #[.int .u8 k, .string s, .string pic, .string b] w fun e w' => e = .returned (.bool (showsR (litR k s.data.toList) pic.data.toList b.data.toList)) ∧ Below w.heap.size w w' := by
  have hc := literal_any k s 0 0 false w hE hs
  have hok := litR_ok k s.data.toList
  generalize litR k s.data.toList = r at hc hok
  have HE := Lib.hid hE
  clear hE
  rcases r with c | f
  · have hc0 : (c == 0) = false := by simpa [ErrOk] using hok
    have HC := Lib.hid hc
    clear hc hok
    go_enter Tryd.func20, Tryd.ntmps20
    go_wp2_with fail
    refine (HC.out).mono ?_
    rintro e w1 ⟨rfl, hb⟩
    have HB := Lib.hid hb
    clear hb
    have HW := Lib.hid (heap_alloc_new w1 (.cells fieldZ 41 (0, 0)))
    go_wp2_with (refine wpList_store_row rfl _ _ 41 rfl w1.heap.size rfl _ rfl _ _ HW.out rfl (by kernel_rfl) rfl ?_)
    intro w5 hg5 hgr5 hsz5
    have hcr := fun j => cell_of_row w5 _ j _ _ _ hg5
    clear hg5
    go_wp2_with fail
    go_ret
    exact ⟨rfl, (HB.out.alloc HB.out.size _).grown hgr5 (by have := HB.out.size; simp; omega) (fun k e => by cases e; exact HB.out.size)⟩
  · have HC := Lib.hid hc
    clear hc hok
    have hpl : (pic.data.toList == pic.data.toList) = true := by simp
    by_cases h1 : f.pic = pic.data.toList
    · by_cases h2 : f.bytes = b.data.toList
      · have h1' : (f.pic == pic.toList) = true := by rw [Lib.toList_data]; simpa using h1
        have h2' : (f.bytes == b.toList) = true := by rw [Lib.toList_data]; simpa using h2
        have h3' : ((f.bytes.length : Int) == (b.size : Int)) = true := by rw [h2, ← Lib.size_eq]; simp
        have hres : showsR (.ok f) pic.data.toList b.data.toList = true := by
          simp [showsR, h1, h2]
        have HR := Lib.hid hres
        clear hpl h1 h2 hres
        go_enter Tryd.func20, Tryd.ntmps20
        go_wp2_with fail
        refine (HC.out).mono ?_
        rintro e w1 ⟨A, rfl, hA, hB, hb⟩
        have HB := Lib.hid hb
        have HBy := Lib.hid hB
        clear hb hB
        have HW := Lib.hid (heap_alloc_new w1 (.cells fieldZ 41 (0, 0)))
        go_wp2_with (refine wpList_store_row rfl _ _ 41 rfl w1.heap.size rfl _ rfl _ _ HW.out rfl (by kernel_rfl) rfl ?_)
        intro w5 hg5 hgr5 hsz5
        have hcr := fun j => cell_of_row w5 _ j _ _ _ hg5
        have HC5 := Lib.hid (fun j (h : j < f.bytes.length) => ((HBy.out.alloc (.cells fieldZ 41 (0, 0))).same (hgr5.block A (by have := HBy.out.lt; simp; omega) (by have := HBy.out.lt; simp; omega))).cell j h)
        clear hg5
        go_wp2_with (refine wpList_str_of rfl _ 39 9 5 rfl A 0 f.bytes.length f.bytes rfl Tryd.underlying39 Tryd.underlying5 Tryd.underlying9 (fun j h => by rw [Nat.zero_add]; exact HC5.out j h) ?_)
        go_wp2_with fail
        go_ret
        exact ⟨ret_bool HR.out.symm, (HB.out.alloc HB.out.size _).grown hgr5 (by have := HB.out.size; simp; omega) (fun k e => by cases e; exact HB.out.size)⟩
      · have h1' : (f.pic == pic.toList) = true := by rw [Lib.toList_data]; simpa using h1
        have h2' : (f.bytes == b.toList) = false := by rw [Lib.toList_data]; simpa using h2
        have hres : showsR (.ok f) pic.data.toList b.data.toList = false := by
          simp [showsR, h2]
        have HR := Lib.hid hres
        clear hpl h1 h2 hres
        go_enter Tryd.func20, Tryd.ntmps20
        go_wp2_with fail
        refine (HC.out).mono ?_
        rintro e w1 ⟨A, rfl, hA, hB, hb⟩
        have HB := Lib.hid hb
        have HBy := Lib.hid hB
        clear hb hB
        have HW := Lib.hid (heap_alloc_new w1 (.cells fieldZ 41 (0, 0)))
        go_wp2_with (refine wpList_store_row rfl _ _ 41 rfl w1.heap.size rfl _ rfl _ _ HW.out rfl (by kernel_rfl) rfl ?_)
        intro w5 hg5 hgr5 hsz5
        have hcr := fun j => cell_of_row w5 _ j _ _ _ hg5
        have HC5 := Lib.hid (fun j (h : j < f.bytes.length) => ((HBy.out.alloc (.cells fieldZ 41 (0, 0))).same (hgr5.block A (by have := HBy.out.lt; simp; omega) (by have := HBy.out.lt; simp; omega))).cell j h)
        clear hg5
        go_wp2_with (refine wpList_str_of rfl _ 39 9 5 rfl A 0 f.bytes.length f.bytes rfl Tryd.underlying39 Tryd.underlying5 Tryd.underlying9 (fun j h => by rw [Nat.zero_add]; exact HC5.out j h) ?_)
        go_wp2_with fail
        go_ret
        exact ⟨ret_bool HR.out.symm, (HB.out.alloc HB.out.size _).grown hgr5 (by have := HB.out.size; simp; omega) (fun k e => by cases e; exact HB.out.size)⟩
    · have h1' : (f.pic == pic.toList) = false := by rw [Lib.toList_data]; simpa using h1
      have hres : showsR (.ok f) pic.data.toList b.data.toList = false := by
        rw [Lib.toList_data] at h1'; simp only [showsR, h1', Bool.false_and]
      have HR := Lib.hid hres
      clear hpl h1 hres
      go_enter Tryd.func20, Tryd.ntmps20
      go_wp2_with fail
      refine (HC.out).mono ?_
      rintro e w1 ⟨A, rfl, hA, hB, hb⟩
      have HB := Lib.hid hb
      clear hb hB
      have HW := Lib.hid (heap_alloc_new w1 (.cells fieldZ 41 (0, 0)))
      go_wp2_with (refine wpList_store_row rfl _ _ 41 rfl w1.heap.size rfl _ rfl _ _ HW.out rfl (by kernel_rfl) rfl ?_)
      intro w5 hg5 hgr5 hsz5
      have hcr := fun j => cell_of_row w5 _ j _ _ _ hg5
      clear hg5
      go_wp2_with fail
      go_ret
      exact ⟨ret_bool HR.out.symm, (HB.out.alloc HB.out.size _).grown hgr5 (by have := HB.out.size; simp; omega) (fun k e => by cases e; exact HB.out.size)⟩
end Go.Proofs.YtphofgokcfdobaaDoor
