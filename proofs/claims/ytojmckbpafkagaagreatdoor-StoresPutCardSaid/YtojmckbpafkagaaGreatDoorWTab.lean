/- The table of the reserved words: the map that it makes, and the class of a word. -/
import Derived.Test.YtojmckbpafkagaaGreatDoorWIn
import Derived.Test.YtojmckbpafkagaaGreatDoorWTabP
import Derived.Maps.OwnOps
namespace Go.Proofs.YtojmckbpafkagaaGreatDoor
open Go.RowKit Go.Shelf Go.Maps Go.WideMaps
set_option maxRecDepth 100000

theorem lawS : Keyed Tryz.prog 9 := string_keyed Tryz.underlying9
theorem zeroCls (w : World) : (zeroValue 132).run Tryz.prog w = .ok (.int .u8 0) w := by kernel_rfl

theorem flds_keys : flds WP.keysS = WP.keysL := WP.keysS_flds
theorem flds_verbs : flds WP.verbsS = WP.verbsL := WP.verbsS_flds
theorem flds_consts : flds WP.constsS = WP.constsL := WP.constsS_flds

theorem wf_u8 {n : Int} (h0 : 0 ≤ n) (h1 : n ≤ 255) : (Lit.int .u8 n).wf = true := by
  obtain ⟨k, rfl⟩ := Int.eq_ofNat_of_zero_le h0
  simp only [Lit.wf, IntKind.min, IntKind.max, IntKind.signed, IntKind.bits, Bool.and_eq_true, decide_eq_true_eq, Bool.false_eq_true, if_false]; omega
theorem _root_.Go.World.grownBy.trans' {a b c : World} {row : Option Nat} (h : a.grownBy b row) (k : b.grownBy c row) : a.grownBy c row :=
  ⟨k.os.trans h.os, k.tape.trans h.tape, k.output.trans h.output, Nat.le_trans h.size k.size, fun i hi hn => (k.block i (Nat.lt_of_lt_of_le hi h.size) hn).trans (h.block i hi hn)⟩
theorem ownsMap_below {H : Type} {P : Program} {k : TypeId} {R : Value → Option (DataW H × List MemPlace)} {b n B : Nat} {D : DataW H} {w w' : World} (h : w.ownsMap P k R b n D) (hb : Below B w w') (hB : b < B) : w'.ownsMap P k R b n D := by
  obtain ⟨es, clock, h1, h2⟩ := h
  exact ⟨es, clock, (hb.block b hB).trans h1, h2⟩

set_option maxHeartbeats 4000000 in
theorem table_any {H : Type} (w : World) (hE : Env w) :
    Calls Tryz.prog 127 #[] w fun e w' => ∃ b, e = .returned (.map (some b)) ∧ w'.ownsMap Tryz.prog 9 (plainElem (H := H) Tryz.prog 132) b 1000 WP.tabD ∧ w.heap.size ≤ b ∧ Below w.heap.size w w' := by
  have hmm := @run_makeMap Tryz.prog
  have HE := Lib.hid hE
  clear hE
  go_enter Tryz.func127, Tryz.ntmps127
  go_wp2
  go_loopw [9] (fun s9 wr => ∃ i : Nat, i ≤ 3 ∧ s9 = .int .i64 i ∧ wr.ownsMap Tryz.prog 9 (plainElem (H := H) Tryz.prog 132) w.heap.size (WP.cnt i) (WP.Dn i) ∧
      (∀ j, j < 3 → wr.cell? ⟨w.heap.size + 1, j, none⟩ = some (.string (WP.LstS j))) ∧ w.heap.size + 2 ≤ wr.heap.size ∧ Below w.heap.size w wr)
    (fun s9 _ => 3 - (intOf s9).toNat)
  case atStart =>
    refine ⟨0, by omega, rfl, (World.ownsMap_made _ _ _ _).alloc _, ?_, by simp, ((Below.refl _ _).alloc (Nat.le_refl _) _).alloc (by simp) _⟩
    intro j hj
    match j, hj with
    | 0, _ => exact (World.cell?_alloc2_new _ _ _ _).trans (congrArg (fun b => some (Value.string b)) (by kernel_rfl))
    | 1, _ => exact (World.cell?_alloc2_new _ _ _ _).trans (congrArg (fun b => some (Value.string b)) (by kernel_rfl))
    | 2, _ => exact (World.cell?_alloc2_new _ _ _ _).trans (congrArg (fun b => some (Value.string b)) (by kernel_rfl))
  case round =>
    obtain ⟨i, hi, rfl, hown, hstr, hsz, hbel⟩ := hrel
    obtain ⟨wo, rfl⟩ : ∃ wo : World, wo = wr := ⟨_, rfl⟩
    have HS := Lib.hid hstr
    clear hstr
    by_cases hlt : i < 3
    · have hci := HS.out i hlt
      have hfz : (WP.LstS i).size < 4294967281 := by have := WP.LstS_size i; omega
      generalize hS : WP.LstS i = S at hci hfz
      have HSi := Lib.hid hS
      clear hS
      go_wp2_with fail
      refine (fields_any _ _ hfz (HE.out.below hbel)).mono ?_
      rintro e w1 ⟨A, rfl, hA, hc, hb⟩
      have hF : flds S = WP.Lst i := by rw [← HSi.out]; exact WP.LstS_flds i
      rw [hF] at hc ⊢
      have hLn := WP.Lst_len i
      have hcn := WP.cnt_le i
      have hown1 := ownsMap_below hown hb (by omega)
      have hbel1 := hbel.trans (hb.mono (by omega))
      have hsz1 : wo.heap.size ≤ w1.heap.size := hb.size
      have HC := Lib.hid hc
      have HB1 := Lib.hid hb
      clear hF hc hb hown
      go_wp2
      go_loopw [17] (fun s17 w2 => ∃ k : Nat, k ≤ (WP.Lst i).length ∧ s17 = .int .i64 k ∧ w2.ownsMap Tryz.prog 9 (plainElem (H := H) Tryz.prog 132) w.heap.size (WP.cnt i + k) (WP.ins (WP.Dn i) (1 + (i : Int)) ((WP.Lst i).take k)) ∧
          w1.grownBy w2 (some w.heap.size))
        (fun s17 _ => (WP.Lst i).length - (intOf s17).toNat)
      case atStart => exact ⟨0, Nat.zero_le _, rfl, hown1, ⟨rfl, rfl, rfl, Nat.le_refl _, fun _ _ _ => rfl⟩⟩
      case round =>
        obtain ⟨k, hk, rfl, hown2, hg⟩ := hrel
        have hcell := fun (g : Nat) (o : Nat) (h1 : g < w1.heap.size) (h2 : g ≠ w.heap.size) => World.cell?_of_block (a := ⟨g, o, none⟩) (hg.block g h1 (by simpa using h2))
        by_cases hkl : k < (WP.Lst i).length
        · have hck := (hcell A k (by have := cell_lt (HC.out k hkl); simpa using this) (by omega)).trans (HC.out k hkl)
          have hins := WP.ins_take (H := H) (WP.Dn i) (1 + (i : Int)) (WP.Lst i) k hkl
          have hwd := WP.Lst_word i k hkl
          generalize hx : (WP.Lst i)[k] = x at hck hins hwd
          have hkey : keyOf Tryz.prog 9 (.string ⟨x.toArray⟩) = some (.string x) := keyOf_string_mk (s := ⟨x.toArray⟩) Tryz.underlying9 (by show x.toArray.size ≤ _; unfold maxLen; simp; omega)
          have HI := Lib.hid hins
          clear hins hx hcell
          go_wp2_with (first | (at_mapUpdate; refine wpList_mapUpdate_own _ rfl _ _ _ 189 rfl 9 132 lawS Tryz.underlying189 _ w.heap.size (WP.cnt i + k) _ rfl hown2 (by unfold maxLen; omega) _ _ _ rfl rfl hkey _ [] (plainElem_int Tryz.underlying132 ?cw) ?_))
          case cw => exact wf_u8 (by omega) (by omega)
          intro w3 hown3 hg3
          go_wp2
          go_roundw
          case rel =>
            refine ⟨k + 1, by omega, by go_num, ?_, ?_⟩
            · rw [HI.out]; exact hown3
            · exact hg.trans' hg3
          case measure => simp [intOf]; omega
        · go_wp2
          go_roundw
          case rel =>
            obtain rfl : k = (WP.Lst i).length := by omega
            refine ⟨i + 1, by omega, by go_num, ?_, ?_, ?_, ?_⟩
            · have := hown2
              rw [List.take_length] at this
              exact this
            · intro j hj
              exact (hcell (w.heap.size + 1) j (by omega) (by omega)).trans ((HB1.out.cell (p := ⟨w.heap.size + 1, j, none⟩) (by show w.heap.size + 1 < _; omega)).trans (HS.out j hj))
            · have := hg.size; omega
            · exact hbel1.grown hg (by omega) (fun k e => by cases e; exact Nat.le_refl _)
          case measure => simp [intOf]; omega
    · obtain rfl : i = 3 := by omega
      go_wp2
      go_ret
      exact ⟨w.heap.size, rfl, hown.mono (by have := WP.cnt_le 3; omega), Nat.le_refl _, hbel⟩

set_option maxHeartbeats 1000000 in
theorem of_any (s : ByteArray) (w : World) (hs : s.size ≤ maxLen) (hE : Env w) :
    Calls Tryz.prog 67 #[.string s] w fun e w' => e = .returned (.int .u8 (WP.cls s.data.toList)) ∧ Below w.heap.size w w' := by
  have HE := Lib.hid hE
  clear hE
  have hkey : keyOf Tryz.prog 9 (.string s) = some (.string s.data.toList) := keyOf_string_mk Tryz.underlying9 hs
  go_enter Tryz.func67, Tryz.ntmps67
  go_wp2_with fail
  refine (table_any (H := Unit) _ HE.out).mono ?_
  rintro e w1 ⟨b, rfl, hown, hbb, hb⟩
  go_wp2_with (first | (at_lookup; refine wpList_lookup_own_int _ rfl _ _ 189 rfl 9 132 .u8 lawS Tryz.underlying189 Tryz.underlying132 (zeroCls _) b 1000 _ rfl hown _ _ rfl hkey ?_))
  intro c hat hwc
  have hc : c = WP.cls s.data.toList := by
    rw [WP.tabD_at] at hat
    injection hat with h; injection h with _ h; exact h.symm
  subst hc
  go_wp2
  go_ret
  exact ⟨rfl, hb⟩
end Go.Proofs.YtojmckbpafkagaaGreatDoor
