/- Contract: stores.Changed. -/
import Derived.Test.YtojmckbpafkagaaGreatDoorSChgP
import Derived.Test.YtojmckbpafkagaaGreatDoorStruct
import Derived.Laws.AppendOwn
import Derived.Laws.OwnMore
import Derived.Maps.AppendAt
import Derived.Test.YtojmckbpafkagaaGreatDoorHeld
import Derived.RangeFuncBox
import Derived.Deep.AppendLies
set_option linter.unusedVariables false
set_option linter.unusedSimpArgs false
namespace Go.Proofs.YtojmckbpafkagaaGreatDoor
open Go.RowKit Go.Lib Go.Maps
set_option maxRecDepth 100000
theorem Tryz.infoPl : (Tryz.prog.info? 23).map (fun i => (i.zero, i.size, i.bytes)) = some (some (.agg #[.int .i64 0, .int .i64 0]), 2, 16) := by kernel_rfl
/-- A slice of bytes lies here. -/
def Bts (w : World) (A : Option Addr) (n : Nat) (x : Nat → Nat) : Prop := 0 < n → ∃ g o, A = some ⟨g, o, none⟩ ∧ g < w.heap.size ∧ ∀ j, j < n → w.cell? ⟨g, o + j, none⟩ = some (.int .u8 (x j : Nat))
theorem Bts.below {w w' : World} {A : Option Addr} {n : Nat} {x : Nat → Nat} (h : Bts w A n x) (hb : Below w.heap.size w w') : Bts w' A n x := fun h0 => by
  obtain ⟨g, o, e, hg, hc⟩ := h h0
  exact ⟨g, o, e, Nat.lt_of_lt_of_le hg hb.size, fun j hj => (hb.cell (p := ⟨g, o + j, none⟩) hg).trans (hc j hj)⟩
def plc (p : Nat × Nat) : List Value := [.int .i64 (p.1 : Nat), .int .i64 (p.2 : Nat)]
def plCells (l : List (Nat × Nat)) : List Value := l.flatMap plc
theorem plCells_len : ∀ l : List (Nat × Nat), (plCells l).length = l.length * 2
  | [] => rfl
  | p :: l => by
    have := plCells_len l
    simp only [plCells, List.flatMap_cons, List.length_append, List.length_cons] at this ⊢
    rw [this]; simp [plc]; omega
theorem plCells_snoc (l : List (Nat × Nat)) (p : Nat × Nat) : plCells (l ++ [p]) = plCells l ++ [.int .i64 (p.1 : Nat), .int .i64 (p.2 : Nat)] := by simp [plCells, plc]
theorem plCells_get : ∀ (l : List (Nat × Nat)) (j : Nat) (h : j < l.length), (plCells l)[j * 2]? = some (.int .i64 (l[j].1 : Nat)) ∧ (plCells l)[j * 2 + 1]? = some (.int .i64 (l[j].2 : Nat))
  | [], j, h => by simp at h
  | p :: l, 0, h => ⟨rfl, rfl⟩
  | p :: l, j + 1, h => by
    have := plCells_get l j (by simpa using h)
    have e : plCells (p :: l) = .int .i64 (p.1 : Nat) :: .int .i64 (p.2 : Nat) :: plCells l := rfl
    rw [e, show (j + 1) * 2 = j * 2 + 1 + 1 by omega]
    simpa using this
theorem plCells_set (l : List (Nat × Nat)) (p : Nat × Nat) (z : Nat) : (plCells (l ++ [p])).set (l.length * 2 + 1) (.int .i64 (z : Nat)) = plCells (l ++ [(p.1, z)]) := by
  rw [plCells_snoc, plCells_snoc, List.set_append_right _ _ (by rw [plCells_len]; omega), plCells_len]
  simp
theorem own_sliceS {W : World} {base n sz : Nat} {e : TypeId} {v : Value} {xs : List Value} (h : W.ownsRow base e sz v n xs) : ∃ A c, v = .slice A n c := by
  rcases h.2 with ⟨rfl, h0⟩ | ⟨g', cap, cur, rfl, _⟩
  · exact ⟨none, 0, by rw [h0]⟩
  · exact ⟨_, _, rfl⟩
theorem sc_step {d : Nat → Bool} {i : Nat} (h : d i = false) : SC.out d (i + 1) = SC.out d i := by simp [SC.out, SC.step, h]
theorem sc_new {d : Nat → Bool} {i : Nat} (h : d i = true) (hl : SC.out d i = []) : SC.out d (i + 1) = [(i, 1)] := by simp [SC.out, SC.step, h, hl]
theorem sc_last {d : Nat → Bool} {i : Nat} {l : List (Nat × Nat)} {x : Nat × Nat} (h : d i = true) (hl : SC.out d i = l ++ [x]) : SC.out d (i + 1) = if x.1 + x.2 = i then l ++ [(x.1, x.2 + 1)] else l ++ [x] ++ [(i, 1)] := by
  simp only [SC.out, SC.step, h, hl]
  simp
theorem smea (L j : Nat) (h : j < L) (hL : L ≤ 1000) : L - (intOf (.int .i64 (wrap64 ((j : Int) + 1)))).toNat < L - (intOf (.int .i64 (j : Nat))).toNat := by
  rw [show wrap64 ((j : Int) + 1) = (j : Int) + 1 by unfold wrap64; omega]
  show L - ((j : Int) + 1).toNat < L - ((j : Int)).toNat
  omega
theorem i64_sm (z : Int) (h0 : -1000000 ≤ z) (h1 : z ≤ 1000000) : IntKind.i64.wrap z = z := by rw [IntKind.wrap_i64]; omega
theorem w64_sm (z : Int) (h0 : -1000000 ≤ z) (h1 : z ≤ 1000000) : wrap64 z = z := by unfold wrap64; omega
theorem sw64 (j : Nat) (h : j ≤ 1000) : wrap64 ((j : Int) + 1) = ((j + 1 : Nat) : Int) := by unfold wrap64; omega
theorem si64 (j : Nat) (h : j ≤ 1000) : IntKind.i64.wrap ((j : Int) + 1) = ((j + 1 : Nat) : Int) := by rw [i64_sm _ (by omega) (by omega)]; omega
theorem nw64 (j : Nat) (h : j ≤ 1000) : wrap64 (j : Int) = (j : Int) := w64_sm _ (by omega) (by omega)
theorem ni64 (j : Nat) (h : j ≤ 1000) : IntKind.i64.wrap (j : Int) = (j : Int) := i64_sm _ (by omega) (by omega)
theorem aw64 (x y : Nat) (h : x + y ≤ 1000) : wrap64 ((x : Int) + (y : Int)) = (x : Int) + (y : Int) := w64_sm _ (by omega) (by omega)
theorem ai64 (x y : Nat) (h : x + y ≤ 1000) : IntKind.i64.wrap ((x : Int) + (y : Int)) = (x : Int) + (y : Int) := i64_sm _ (by omega) (by omega)
/-- A slice of places, in a block of its own. -/
def Pls (w : World) (base : Nat) (A : Option Addr) (l : List (Nat × Nat)) : Prop := 0 < l.length → ∃ g, A = some ⟨g, 0, none⟩ ∧ base ≤ g ∧ g < w.heap.size ∧ ∀ j (h : j < l.length), w.cell? ⟨g, j * 2, none⟩ = some (.int .i64 (l[j].1 : Nat)) ∧ w.cell? ⟨g, j * 2 + 1, none⟩ = some (.int .i64 (l[j].2 : Nat))
theorem Pls.below {w w' : World} {base : Nat} {A : Option Addr} {l : List (Nat × Nat)} (h : Pls w base A l) (hb : Below w.heap.size w w') : Pls w' base A l := fun h0 => by
  obtain ⟨g, e, hg, hl, hc⟩ := h h0
  exact ⟨g, e, hg, Nat.lt_of_lt_of_le hl hb.size, fun j hj => ⟨(hb.cell (p := ⟨g, j * 2, none⟩) hl).trans (hc j hj).1, (hb.cell (p := ⟨g, j * 2 + 1, none⟩) hl).trans (hc j hj).2⟩⟩
theorem pls_of_own {w : World} {base cap : Nat} {A : Option Addr} {l : List (Nat × Nat)} (h : w.ownsRow base 23 2 (.slice A l.length cap) l.length (plCells l)) : Pls w base A l := fun h0 => by
  obtain ⟨k, hk⟩ : ∃ k, l.length = k + 1 := ⟨l.length - 1, by omega⟩
  have h' := h
  rw [hk] at h'
  obtain ⟨g, c, e⟩ := ownsRow_succ h'
  injection e with e1 e2 e3
  subst e1; subst e3
  have hlt := h.lt g rfl
  refine ⟨g, rfl, hlt.1, hlt.2, fun j hj => ?_⟩
  obtain ⟨p1, p2⟩ := plCells_get l j hj
  exact ⟨(h.cellAt (j * 2) (by omega)).trans p1, (h.cellAt (j * 2 + 1) (by omega)).trans p2⟩
theorem own_capS {W : World} {base n cap sz : Nat} {A : Option Addr} {e : TypeId} {xs : List Value} (h : W.ownsRow base e sz (.slice A n cap) n xs) : (∃ a, A = some a ∧ n ≤ cap) ∨ (A = none ∧ n = 0 ∧ cap = 0) := by
  rcases h.2 with ⟨h1, h0⟩ | ⟨g', c, cur, h1, _, _, hc, _⟩
  · injection h1 with h1 h2 h3; exact .inr ⟨h1, h0, h3⟩
  · injection h1 with h1 h2 h3; subst h3; exact .inl ⟨_, h1, hc⟩
theorem clipP_any (A : Option Addr) (n c : Nat) (w : World) (h : (∃ a, A = some a ∧ n ≤ c) ∨ (A = none ∧ n = 0 ∧ c = 0)) :
    Calls Tryz.prog 16 #[.slice A n c] w fun e w' => e = .returned (.slice A n n) ∧ w = w' := by
  rcases h with ⟨a, rfl, hc⟩ | ⟨rfl, rfl, rfl⟩
  · go_enter Tryz.func16, Tryz.ntmps16
    go_wp2
    go_ret
    exact ⟨rfl, rfl⟩
  · go_enter Tryz.func16, Tryz.ntmps16
    go_wp2
    go_ret
    exact ⟨rfl, rfl⟩
section
variable {P : Program} {ops : Array Oper} {Q : Exit → Act → World → Prop} {S : World → Prop}
theorem wpPlan_readG {L : Act → World → Prop} {i : Nat} {o : Oper} {t : List (Nat × Bool)} {a : Act} {w : World} {v : Value} (ho : ops[i]? = some o) (hg : Region.wanted o (yielded ops a.tmps) = true) (hy : ∀ w', S w' → (execOp a.eval o).run P w' = .ok (.value v) w')
    (h : ∀ K : Act → Prop, (∀ a, wpPlan P ops Q S L t a w → K a) → K (a.put o.dst v)) : wpPlan P ops Q S L ((i, false) :: t) a w :=
  ⟨o, v, ho, .inl ⟨hg, hy⟩, h _ fun _ h => h⟩
theorem wpPlan_skip {L : Act → World → Prop} {i : Nat} {o : Oper} {t : List (Nat × Bool)} {a : Act} {w : World} (ho : ops[i]? = some o) (hg : Region.wanted o (yielded ops a.tmps) = false)
    (h : ∀ K : Act → Prop, (∀ a, wpPlan P ops Q S L t a w → K a) → K (a.put o.dst undef)) : wpPlan P ops Q S L ((i, false) :: t) a w :=
  ⟨o, undef, ho, .inr ⟨hg, rfl⟩, h _ fun _ h => h⟩
end
set_option maxHeartbeats 4000000 in
theorem changed_any (A B : Option Addr) (n ca cb : Nat) (a b : Nat → Nat) (w : World) (hA : Bts w A n a) (hB : Bts w B n b) (hN : n ≤ 1000) :
    Calls Tryz.prog 8 #[.slice A n ca, .slice B n cb] w fun e w' => ∃ C, e = .returned (.tuple #[.slice C (SC.out (fun j => a j != b j) n).length (SC.out (fun j => a j != b j) n).length, .int .i64 0]) ∧ Pls w' w.heap.size C (SC.out (fun j => a j != b j) n) ∧ Below w.heap.size w w' := by
  obtain ⟨i0, hi, hz0, hz1, hz2⟩ := info_parts Tryz.infoPl
  have HA := Lib.hid hA
  have HB := Lib.hid hB
  have HN := Lib.hid hN
  clear hA hB hN
  generalize hd : (fun j => a j != b j) = d
  have HD : Hid (∀ j, d j = (a j != b j)) := Lib.hid (fun j => by rw [← hd])
  clear hd
  go_enter Tryz.func8, Tryz.ntmps8
  go_wp2
  go_loopw [6, 16] (fun s i wr => ∃ j : Nat, j ≤ n ∧ i = .int .i64 j ∧ Hid (wr.ownsRow w.heap.size 23 2 s (SC.out d j).length (plCells (SC.out d j)) ∧ Below w.heap.size w wr)) (fun _ i _ => n - (intOf i).toNat)
  case atStart => exact ⟨0, Nat.zero_le _, rfl, Lib.hid ⟨World.ownsRow_nil _ _ _ _, Below.refl _ _⟩⟩
  case round =>
    obtain ⟨j, hj, rfl, H1⟩ := hrel
    by_cases hlt : j < n
    · obtain ⟨ga, oa, rfl, hga, hca⟩ := HA.out (by omega)
      obtain ⟨gb, ob, rfl, hgb, hcb⟩ := HB.out (by omega)
      have c0 : wr.cell? ⟨ga, oa + j, none⟩ = some (.int .u8 (a j : Nat)) := (H1.out.2.cell (p := ⟨ga, oa + j, none⟩) hga).trans (hca j hlt)
      have c1 : wr.cell? ⟨gb, ob + j, none⟩ = some (.int .u8 (b j : Nat)) := (H1.out.2.cell (p := ⟨gb, ob + j, none⟩) hgb).trans (hcb j hlt)
      have hji : (j : Int) < (n : Nat) := by omega
      have HLT := Lib.hid hlt
      clear hca hcb
      by_cases hab : a j = b j
      · have hab' : ((a j : Int) == (b j : Int)) = true := by rw [hab]; simp
        obtain ⟨As, cs, rfl⟩ := own_sliceS H1.out.1
        have HS := Lib.hid (sc_step (d := d) (i := j) (by rw [HD.out]; simp [hab]))
-- FLOWS
        go_upto_region 9 with fail
        refine wp_region_plan 8 [(0, false), (1, false), (2, false), (3, false), (4, false), (5, false), (6, false), (7, false)] (fun w' => w'.cell? ⟨ga, oa + j, none⟩ = some (.int .u8 (a j : Nat)) ∧ w'.cell? ⟨gb, ob + j, none⟩ = some (.int .u8 (b j : Nat))) (by kernel_rfl) (by kernel_rfl) (fun c a d v w h => by cases d <;> exact h) ⟨c0, c1⟩ ?_
        repeat
          first
          | (first | refine wpPlan_read (v := ?_) (by rfl) (by rfl) (fun w' hS => ?_) (fun K hK => ?_) | refine wpPlan_readG (v := ?_) (by rfl) (by rfl) (fun w' hS => ?_) (fun K hK => ?_)
             rotate_left
             · obtain ⟨s0, s1⟩ := hS
               go_simp
               try with_reducible rfl
             go_simp
             refine hK _ ?_
             clear hK K)
          | (refine wpPlan_skip (by rfl) (by rfl) (fun K hK => ?_)
             go_simp
             refine hK _ ?_
             clear hK K)
        show wpList _ _ _ _ _ _
        have H2 : Hid (wr.drew.ownsRow w.heap.size 23 2 (.slice As (SC.out d j).length cs) ((SC.out d j).length) (plCells (SC.out d j)) ∧ Below w.heap.size w wr.drew) := Lib.hid ⟨H1.out.1, H1.out.2.os, H1.out.2.tape, H1.out.2.output, H1.out.2.size, H1.out.2.block⟩
        clear H1 c0 c1
        generalize wr.drew = W2 at H2 ⊢
        go_wp2_with fail
        go_roundw
        case rel => exact ⟨j + 1, HLT.out, by rw [sw64 j (Nat.le_trans (Nat.le_of_lt HLT.out) HN.out)], Lib.hid (by rw [HS.out]; exact H2.out)⟩
        case measure => exact smea _ _ HLT.out HN.out
      · have hab' : ((a j : Int) == (b j : Int)) = false := by simp; omega
        have hdj : d j = true := by rw [HD.out]; simp [hab]
        have hol := SC.out_len d j
        rcases List.eq_nil_or_concat (SC.out d j) with hl | ⟨l, x, hl⟩
        · have HS := Lib.hid (sc_new hdj hl)
          have HKL : Hid (0 ≤ j) := Lib.hid (by omega)
          rw [hl] at H1
          have hcs := H1.out.1.2
          rcases hcs with ⟨rfl, _⟩ | ⟨g, cs, cur, rfl, _⟩
          · clear hol hl
            simp only [List.length_nil] at H1 ⊢
            go_upto_region 9 with fail
            refine wp_region_plan 8 [(0, false), (1, false), (2, false), (3, false), (4, false), (5, false), (6, false), (7, false)] (fun w' => w'.cell? ⟨ga, oa + j, none⟩ = some (.int .u8 (a j : Nat)) ∧ w'.cell? ⟨gb, ob + j, none⟩ = some (.int .u8 (b j : Nat))) (by kernel_rfl) (by kernel_rfl) (fun c a d v w h => by cases d <;> exact h) ⟨c0, c1⟩ ?_
            repeat
              first
              | (first | refine wpPlan_read (v := ?_) (by rfl) (by rfl) (fun w' hS => ?_) (fun K hK => ?_) | refine wpPlan_readG (v := ?_) (by rfl) (by rfl) (fun w' hS => ?_) (fun K hK => ?_)
                 rotate_left
                 · obtain ⟨s0, s1⟩ := hS
                   go_simp
                   try with_reducible rfl
                 go_simp
                 refine hK _ ?_
                 clear hK K)
              | (refine wpPlan_skip (by rfl) (by rfl) (fun K hK => ?_)
                 go_simp
                 refine hK _ ?_
                 clear hK K)
            show wpList _ _ _ _ _ _
            have H2 : Hid (wr.drew.ownsRow w.heap.size 23 2 (.slice none 0 0) (0) (plCells ([])) ∧ Below w.heap.size w wr.drew) := Lib.hid ⟨H1.out.1, H1.out.2.os, H1.out.2.tape, H1.out.2.output, H1.out.2.size, H1.out.2.block⟩
            clear H1 c0 c1
            generalize wr.drew = W2 at H2 ⊢
            go_upto_region 10 with fail
            refine wp_region_plan 17 [(0, false), (1, false), (2, false), (3, false), (4, false), (5, false), (6, false), (7, false), (8, false), (9, false), (10, false), (11, false), (12, false), (13, false), (14, false), (15, false), (16, false)] (fun _ => True ∧ True) (by kernel_rfl) (by kernel_rfl) (fun c a d v w h => by cases d <;> exact h) ⟨trivial, trivial⟩ ?_
            repeat
              first
              | (first | refine wpPlan_read (v := ?_) (by rfl) (by rfl) (fun w' hS => ?_) (fun K hK => ?_) | refine wpPlan_readG (v := ?_) (by rfl) (by rfl) (fun w' hS => ?_) (fun K hK => ?_)
                 rotate_left
                 · obtain ⟨s0, s1⟩ := hS
                   go_simp
                   try with_reducible rfl
                 go_simp
                 refine hK _ ?_
                 clear hK K)
              | (refine wpPlan_skip (by rfl) (by rfl) (fun K hK => ?_)
                 go_simp
                 refine hK _ ?_
                 clear hK K)
            show wpList _ _ _ _ _ _
            have H3 : Hid (W2.drew.ownsRow w.heap.size 23 2 (.slice none 0 0) (0) (plCells ([])) ∧ Below w.heap.size w W2.drew) := Lib.hid ⟨H2.out.1, H2.out.2.os, H2.out.2.tape, H2.out.2.output, H2.out.2.size, H2.out.2.block⟩
            clear H2
            generalize W2.drew = W3 at H3 ⊢
            go_wp2_with (at_builtin; go_loud (refine wpList_append_own_at _ rfl _ _ 28 rfl w.heap.size 23 i0 _ 2 16 Tryz.underlying28 hi hz0 hz1 hz2 rfl (by decide) _ _ _ rfl (H3.out.1.alloc _) ⟨W3.heap.size, 0, none⟩ 1 1 [.int .i64 (j : Nat), .int .i64 1] rfl rfl (World.news_of_block (heap_alloc_new W3 _)) (by simp [Value.oneCell']) (by have := HN.out; have := HLT.out; have := HKL.out; unfold maxLen; omega) (by have := HN.out; have := HLT.out; have := HKL.out; omega) (by have := H3.out.2.size; simp; omega) ?_))
            intro v' w1 hown' hg3 hnil3 hloc3
            have hb2 : Below w.heap.size w (W3.alloc (.cells #[.int .i64 (j : Nat), .int .i64 1] 23)) := H3.out.2.alloc H3.out.2.size _
            have HB2 := Lib.hid (hb2.grown hg3 hb2.size (fun j hj => (H3.out.1.lt j hj).1))
            have HO2 : Hid (w1.ownsRow w.heap.size 23 2 v' (0 + 1) (plCells ([] ++ [(j, 1)]))) := Lib.hid (by rw [plCells_snoc]; exact hown')
            clear hb2 hown' hg3 hnil3 hloc3 H3
            go_wp2_with fail
            go_roundw
            case rel => exact ⟨j + 1, HLT.out, by rw [sw64 j (Nat.le_trans (Nat.le_of_lt HLT.out) HN.out)], Lib.hid (by rw [HS.out]; exact ⟨HO2.out, HB2.out⟩)⟩
            case measure => exact smea _ _ HLT.out HN.out
          · clear hol hl
            simp only [List.length_nil] at H1 ⊢
            go_upto_region 9 with fail
            refine wp_region_plan 8 [(0, false), (1, false), (2, false), (3, false), (4, false), (5, false), (6, false), (7, false)] (fun w' => w'.cell? ⟨ga, oa + j, none⟩ = some (.int .u8 (a j : Nat)) ∧ w'.cell? ⟨gb, ob + j, none⟩ = some (.int .u8 (b j : Nat))) (by kernel_rfl) (by kernel_rfl) (fun c a d v w h => by cases d <;> exact h) ⟨c0, c1⟩ ?_
            repeat
              first
              | (first | refine wpPlan_read (v := ?_) (by rfl) (by rfl) (fun w' hS => ?_) (fun K hK => ?_) | refine wpPlan_readG (v := ?_) (by rfl) (by rfl) (fun w' hS => ?_) (fun K hK => ?_)
                 rotate_left
                 · obtain ⟨s0, s1⟩ := hS
                   go_simp
                   try with_reducible rfl
                 go_simp
                 refine hK _ ?_
                 clear hK K)
              | (refine wpPlan_skip (by rfl) (by rfl) (fun K hK => ?_)
                 go_simp
                 refine hK _ ?_
                 clear hK K)
            show wpList _ _ _ _ _ _
            have H2 : Hid (wr.drew.ownsRow w.heap.size 23 2 (.slice (some ⟨g, 0, none⟩) 0 cs) (0) (plCells ([])) ∧ Below w.heap.size w wr.drew) := Lib.hid ⟨H1.out.1, H1.out.2.os, H1.out.2.tape, H1.out.2.output, H1.out.2.size, H1.out.2.block⟩
            clear H1 c0 c1
            generalize wr.drew = W2 at H2 ⊢
            go_upto_region 10 with fail
            refine wp_region_plan 17 [(0, false), (1, false), (2, false), (3, false), (4, false), (5, false), (6, false), (7, false), (8, false), (9, false), (10, false), (11, false), (12, false), (13, false), (14, false), (15, false), (16, false)] (fun _ => True ∧ True) (by kernel_rfl) (by kernel_rfl) (fun c a d v w h => by cases d <;> exact h) ⟨trivial, trivial⟩ ?_
            repeat
              first
              | (first | refine wpPlan_read (v := ?_) (by rfl) (by rfl) (fun w' hS => ?_) (fun K hK => ?_) | refine wpPlan_readG (v := ?_) (by rfl) (by rfl) (fun w' hS => ?_) (fun K hK => ?_)
                 rotate_left
                 · obtain ⟨s0, s1⟩ := hS
                   go_simp
                   try with_reducible rfl
                 go_simp
                 refine hK _ ?_
                 clear hK K)
              | (refine wpPlan_skip (by rfl) (by rfl) (fun K hK => ?_)
                 go_simp
                 refine hK _ ?_
                 clear hK K)
            show wpList _ _ _ _ _ _
            have H3 : Hid (W2.drew.ownsRow w.heap.size 23 2 (.slice (some ⟨g, 0, none⟩) 0 cs) (0) (plCells ([])) ∧ Below w.heap.size w W2.drew) := Lib.hid ⟨H2.out.1, H2.out.2.os, H2.out.2.tape, H2.out.2.output, H2.out.2.size, H2.out.2.block⟩
            clear H2
            generalize W2.drew = W3 at H3 ⊢
            go_wp2_with (at_builtin; go_loud (refine wpList_append_own_at _ rfl _ _ 28 rfl w.heap.size 23 i0 _ 2 16 Tryz.underlying28 hi hz0 hz1 hz2 rfl (by decide) _ _ _ rfl (H3.out.1.alloc _) ⟨W3.heap.size, 0, none⟩ 1 1 [.int .i64 (j : Nat), .int .i64 1] rfl rfl (World.news_of_block (heap_alloc_new W3 _)) (by simp [Value.oneCell']) (by have := HN.out; have := HLT.out; have := HKL.out; unfold maxLen; omega) (by have := HN.out; have := HLT.out; have := HKL.out; omega) (by have := H3.out.2.size; simp; omega) ?_))
            intro v' w1 hown' hg3 hnil3 hloc3
            have hb2 : Below w.heap.size w (W3.alloc (.cells #[.int .i64 (j : Nat), .int .i64 1] 23)) := H3.out.2.alloc H3.out.2.size _
            have HB2 := Lib.hid (hb2.grown hg3 hb2.size (fun j hj => (H3.out.1.lt j hj).1))
            have HO2 : Hid (w1.ownsRow w.heap.size 23 2 v' (0 + 1) (plCells ([] ++ [(j, 1)]))) := Lib.hid (by rw [plCells_snoc]; exact hown')
            clear hb2 hown' hg3 hnil3 hloc3 H3
            go_wp2_with fail
            go_roundw
            case rel => exact ⟨j + 1, HLT.out, by rw [sw64 j (Nat.le_trans (Nat.le_of_lt HLT.out) HN.out)], Lib.hid (by rw [HS.out]; exact ⟨HO2.out, HB2.out⟩)⟩
            case measure => exact smea _ _ HLT.out HN.out
        · rw [List.concat_eq_append] at hl
          have hxm := SC.out_mem d j x (by rw [hl]; simp)
          have hs := sc_last hdj hl
          have hkl : l.length + 1 ≤ j := by rw [hl] at hol; simpa using hol
          rw [hl] at H1
          have h1 := H1.out.1
          simp only [List.length_append, List.length_cons, List.length_nil, Nat.zero_add] at h1
          obtain ⟨g, cap, rfl⟩ := ownsRow_succ h1
          have H1' : Hid (wr.ownsRow w.heap.size 23 2 (.slice (some ⟨g, 0, none⟩) (l.length + 1) cap) (l.length + 1) (plCells (l ++ [x])) ∧ Below w.heap.size w wr) := Lib.hid ⟨h1, H1.out.2⟩
          have HSL : Hid ((SC.out d j).length = l.length + 1) := Lib.hid (by rw [hl]; simp)
          have hpl := plCells_get (l ++ [x]) l.length (by simp)
          simp only [List.getElem_concat_length] at hpl
          have HPC := Lib.hid hpl
          have HKL : Hid (l.length + 1 ≤ j) := Lib.hid hkl
          have HXM : Hid (x.1 + x.2 ≤ j ∧ 1 ≤ x.2) := Lib.hid ⟨hxm.2.1, hxm.1⟩
          have HSTEP := Lib.hid hs
          clear H1 h1 hl hol hpl hkl hxm hs
          go_upto_region 9 with fail
          refine wp_region_plan 8 [(0, false), (1, false), (2, false), (3, false), (4, false), (5, false), (6, false), (7, false)] (fun w' => w'.cell? ⟨ga, oa + j, none⟩ = some (.int .u8 (a j : Nat)) ∧ w'.cell? ⟨gb, ob + j, none⟩ = some (.int .u8 (b j : Nat))) (by kernel_rfl) (by kernel_rfl) (fun c a d v w h => by cases d <;> exact h) ⟨c0, c1⟩ ?_
          repeat
            first
            | (first | refine wpPlan_read (v := ?_) (by rfl) (by rfl) (fun w' hS => ?_) (fun K hK => ?_) | refine wpPlan_readG (v := ?_) (by rfl) (by rfl) (fun w' hS => ?_) (fun K hK => ?_)
               rotate_left
               · obtain ⟨s0, s1⟩ := hS
                 go_simp
                 try with_reducible rfl
               go_simp
               refine hK _ ?_
               clear hK K)
            | (refine wpPlan_skip (by rfl) (by rfl) (fun K hK => ?_)
               go_simp
               refine hK _ ?_
               clear hK K)
          show wpList _ _ _ _ _ _
          have H2 : Hid (wr.drew.ownsRow w.heap.size 23 2 (.slice (some ⟨g, 0, none⟩) (l.length + 1) cap) (l.length + 1) (plCells (l ++ [x])) ∧ Below w.heap.size w wr.drew) := Lib.hid ⟨H1'.out.1, H1'.out.2.os, H1'.out.2.tape, H1'.out.2.output, H1'.out.2.size, H1'.out.2.block⟩
          clear H1' c0 c1
          generalize wr.drew = W2 at H2 ⊢
          have c0 : W2.cell? ⟨g, l.length * 2, none⟩ = some (.int .i64 (x.1 : Nat)) := (H2.out.1.cellAt (l.length * 2) (by omega)).trans HPC.out.1
          have c1 : W2.cell? ⟨g, l.length * 2 + 1, none⟩ = some (.int .i64 (x.2 : Nat)) := (H2.out.1.cellAt (l.length * 2 + 1) (by omega)).trans HPC.out.2
          have hl2 : l.length ≤ 1000 := Nat.le_trans (Nat.le_trans (Nat.le_succ _) HKL.out) (Nat.le_trans (Nat.le_of_lt HLT.out) HN.out)
          have hx3 : x.1 + x.2 ≤ 1000 := Nat.le_trans HXM.out.1 (Nat.le_trans (Nat.le_of_lt HLT.out) HN.out)
          have r2 : wrap64 (l.length : Int) = (l.length : Int) := nw64 _ hl2
          have r2' : IntKind.i64.wrap (l.length : Int) = (l.length : Int) := ni64 _ hl2
          have r3 : wrap64 ((x.1 : Int) + (x.2 : Int)) = (x.1 : Int) + (x.2 : Int) := aw64 _ _ hx3
          have r3' : IntKind.i64.wrap ((x.1 : Int) + (x.2 : Int)) = (x.1 : Int) + (x.2 : Int) := ai64 _ _ hx3
          have r4 : (l.length : Int) < (l.length : Int) + 1 := Int.lt_succ _
          clear hl2 hx3
          by_cases hx : x.1 + x.2 = j
          · have hx' : ((x.1 : Int) + (x.2 : Int) == (j : Int)) = true := by simp; omega
            have HS : Hid (SC.out d (j + 1) = l ++ [(x.1, x.2 + 1)]) := Lib.hid (by rw [HSTEP.out, if_pos hx])
            go_upto_region 10 with fail
            refine wp_region_plan 17 [(0, false), (1, false), (2, false), (3, false), (4, false), (5, false), (6, false), (7, false), (8, false), (9, false), (10, false), (11, false), (12, false), (13, false), (14, false), (15, false), (16, false)] (fun w' => w'.cell? ⟨g, l.length * 2, none⟩ = some (.int .i64 (x.1 : Nat)) ∧ w'.cell? ⟨g, l.length * 2 + 1, none⟩ = some (.int .i64 (x.2 : Nat))) (by kernel_rfl) (by kernel_rfl) (fun c a d v w h => by cases d <;> exact h) ⟨c0, c1⟩ ?_
            repeat
              first
              | (first | refine wpPlan_read (v := ?_) (by rfl) (by rfl) (fun w' hS => ?_) (fun K hK => ?_) | refine wpPlan_readG (v := ?_) (by rfl) (by rfl) (fun w' hS => ?_) (fun K hK => ?_)
                 rotate_left
                 · obtain ⟨s0, s1⟩ := hS
                   go_simp
                   try with_reducible rfl
                 go_simp
                 refine hK _ ?_
                 clear hK K)
              | (refine wpPlan_skip (by rfl) (by rfl) (fun K hK => ?_)
                 go_simp
                 refine hK _ ?_
                 clear hK K)
            show wpList _ _ _ _ _ _
            have H3 : Hid (W2.drew.ownsRow w.heap.size 23 2 (.slice (some ⟨g, 0, none⟩) (l.length + 1) cap) (l.length + 1) (plCells (l ++ [x])) ∧ Below w.heap.size w W2.drew) := Lib.hid ⟨H2.out.1, H2.out.2.os, H2.out.2.tape, H2.out.2.output, H2.out.2.size, H2.out.2.block⟩
            clear H2
            have d1 : W2.drew.cell? ⟨g, l.length * 2 + 1, none⟩ = some (.int .i64 (x.2 : Nat)) := c1
            have fr1 := H3.out.1.frozenAt (l.length * 2 + 1)
            clear c0 c1
            generalize W2.drew = W3 at H3 d1 fr1 ⊢
            have hx2 : x.2 ≤ 1000 := Nat.le_trans (Nat.le_trans (Nat.le_add_left _ _) HXM.out.1) (Nat.le_trans (Nat.le_of_lt HLT.out) HN.out)
            have r5 : wrap64 ((x.2 : Int) + 1) = ((x.2 + 1 : Nat) : Int) := sw64 x.2 hx2
            have r5' : IntKind.i64.wrap ((x.2 : Int) + 1) = ((x.2 + 1 : Nat) : Int) := si64 x.2 hx2
            go_wp2_with fail
            obtain ⟨st1, st2⟩ := World.ownsRow.stored H3.out.1 (l.length * 2 + 1) (.int .i64 ((x.2 + 1 : Nat) : Int))
            rw [plCells_set] at st1
            have hb3 : Below w.heap.size w (W3.setCell ⟨g, l.length * 2 + 1, none⟩ (.int .i64 ((x.2 + 1 : Nat) : Int))) := H3.out.2.grown st2 H3.out.2.size (fun k e => (H3.out.1.lt k (by simpa [Value.ownBlock] using e)).1)
            go_roundw
            case rel => exact ⟨j + 1, HLT.out, by rw [sw64 j (Nat.le_trans (Nat.le_of_lt HLT.out) HN.out)], Lib.hid (by rw [HS.out]; simpa using And.intro st1 hb3)⟩
            case measure => exact smea _ _ HLT.out HN.out
          · have hx' : ((x.1 : Int) + (x.2 : Int) == (j : Int)) = false := by simp; omega
            have HS : Hid (SC.out d (j + 1) = l ++ [x] ++ [(j, 1)]) := Lib.hid (by rw [HSTEP.out, if_neg hx])
            go_upto_region 10 with fail
            refine wp_region_plan 17 [(0, false), (1, false), (2, false), (3, false), (4, false), (5, false), (6, false), (7, false), (8, false), (9, false), (10, false), (11, false), (12, false), (13, false), (14, false), (15, false), (16, false)] (fun w' => w'.cell? ⟨g, l.length * 2, none⟩ = some (.int .i64 (x.1 : Nat)) ∧ w'.cell? ⟨g, l.length * 2 + 1, none⟩ = some (.int .i64 (x.2 : Nat))) (by kernel_rfl) (by kernel_rfl) (fun c a d v w h => by cases d <;> exact h) ⟨c0, c1⟩ ?_
            repeat
              first
              | (first | refine wpPlan_read (v := ?_) (by rfl) (by rfl) (fun w' hS => ?_) (fun K hK => ?_) | refine wpPlan_readG (v := ?_) (by rfl) (by rfl) (fun w' hS => ?_) (fun K hK => ?_)
                 rotate_left
                 · obtain ⟨s0, s1⟩ := hS
                   go_simp
                   try with_reducible rfl
                 go_simp
                 refine hK _ ?_
                 clear hK K)
              | (refine wpPlan_skip (by rfl) (by rfl) (fun K hK => ?_)
                 go_simp
                 refine hK _ ?_
                 clear hK K)
            show wpList _ _ _ _ _ _
            have H3 : Hid (W2.drew.ownsRow w.heap.size 23 2 (.slice (some ⟨g, 0, none⟩) (l.length + 1) cap) (l.length + 1) (plCells (l ++ [x])) ∧ Below w.heap.size w W2.drew) := Lib.hid ⟨H2.out.1, H2.out.2.os, H2.out.2.tape, H2.out.2.output, H2.out.2.size, H2.out.2.block⟩
            clear H2 c0 c1
            generalize W2.drew = W3 at H3 ⊢
            go_wp2_with (at_builtin; go_loud (refine wpList_append_own_at _ rfl _ _ 28 rfl w.heap.size 23 i0 _ 2 16 Tryz.underlying28 hi hz0 hz1 hz2 rfl (by decide) _ _ _ rfl (H3.out.1.alloc _) ⟨W3.heap.size, 0, none⟩ 1 1 [.int .i64 (j : Nat), .int .i64 1] rfl rfl (World.news_of_block (heap_alloc_new W3 _)) (by simp [Value.oneCell']) (by have := HN.out; have := HLT.out; have := HKL.out; unfold maxLen; omega) (by have := HN.out; have := HLT.out; have := HKL.out; omega) (by have := H3.out.2.size; simp; omega) ?_))
            intro v' w1 hown' hg3 hnil3 hloc3
            have hb2 : Below w.heap.size w (W3.alloc (.cells #[.int .i64 (j : Nat), .int .i64 1] 23)) := H3.out.2.alloc H3.out.2.size _
            have HB2 := Lib.hid (hb2.grown hg3 hb2.size (fun j hj => (H3.out.1.lt j hj).1))
            have HO2 : Hid (w1.ownsRow w.heap.size 23 2 v' (l.length + 1 + 1) (plCells (l ++ [x] ++ [(j, 1)]))) := Lib.hid (by rw [plCells_snoc]; exact hown')
            clear hb2 hown' hg3 hnil3 hloc3 H3
            go_wp2_with fail
            go_roundw
            case rel => exact ⟨j + 1, HLT.out, by rw [sw64 j (Nat.le_trans (Nat.le_of_lt HLT.out) HN.out)], Lib.hid (by rw [HS.out]; simpa using And.intro HO2.out HB2.out)⟩
            case measure => exact smea _ _ HLT.out HN.out
    · obtain rfl : j = n := by omega
      obtain ⟨As, cs, rfl⟩ := own_sliceS H1.out.1
      have HCL := Lib.hid (clipP_any As (SC.out d j).length cs wr (own_capS H1.out.1))
      have hp : Pls wr w.heap.size As (SC.out d j) := pls_of_own H1.out.1
      have HP := Lib.hid hp
      have HBE := Lib.hid H1.out.2
      clear H1 hp
      go_wp2_with fail
      refine HCL.out.mono ?_
      rintro e w1 ⟨rfl, rfl⟩
      go_wp2_with fail
      refine bodyPost_ret (results_tmp2 rfl _ _ _) rfl ?_
      exact ⟨As, rfl, HP.out, HBE.out⟩
end Go.Proofs.YtojmckbpafkagaaGreatDoor
