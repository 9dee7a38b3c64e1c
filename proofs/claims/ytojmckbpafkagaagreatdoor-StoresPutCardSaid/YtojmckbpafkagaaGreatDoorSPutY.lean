/- StoresPut: the place that is possible, with as many bytes as it has. -/
import Derived.Test.YtojmckbpafkagaaGreatDoorSPutX
set_option linter.unusedVariables false
set_option linter.unusedSimpArgs false
namespace Go.Proofs.YtojmckbpafkagaaGreatDoor
open Go.RowKit Go.Lib Go.Maps
set_option maxRecDepth 100000
theorem by_row {w : World} {g n : Nat} {L : List UInt8} (hL : L.length = n) (h : w.heap[g]? = some (.cells (u8s L).toArray 5 (0, 0))) : By w NoM (some ⟨g, 0, none⟩) n L :=
  ⟨hL, fun _ => ⟨g, 0, rfl, (Array.getElem?_eq_some_iff.1 h).1, fun h => h, fun j hj => by
    rw [cell_of_row w g (0 + j) _ _ _ h, Nat.zero_add]
    simpa using u8s_get L j hj⟩⟩
theorem by_bts {w : World} {M : Nat → Prop} {A : Option Addr} {n : Nat} {l : List UInt8} (h : By w M A n l) : Bts w A n (fun j => (l.getD j 0).toNat) := fun h0 => by
  obtain ⟨b, o, e, hb, _, hc⟩ := h.2 h0
  refine ⟨b, o, e, hb, fun j hj => ?_⟩
  have hj2 : j < l.length := by rw [h.1]; exact hj
  rw [hc j hj2]
  simp [u8, List.getD, hj2]
theorem lput_len (l bl : List UInt8) (n i k : Nat) (hl : l.length = n) (hb : bl.length = k) (h : i + k ≤ n) : (l.take i ++ bl ++ l.drop (i + k)).length = n := by simp; omega
theorem lput_part (l bl : List UInt8) (n i k : Nat) (hl : l.length = n) (hb : bl.length = k) (h : i + k ≤ n) : (((l.take i ++ bl ++ l.drop (i + k)).take (i + k)).drop i) = bl := by
  have h1 : (l.take i).length = i := by rw [List.length_take]; omega
  rw [List.append_assoc, List.take_append, List.drop_append]
  simp [h1, List.take_append, hb]
theorem lput_get (l bl : List UInt8) (n i k : Nat) (hl : l.length = n) (hb : bl.length = k) (h : i + k ≤ n) (j : Nat) (hj : j < i ∨ i + k ≤ j) : (l.take i ++ bl ++ l.drop (i + k)).getD j 0 = l.getD j 0 := by
  have h1 : (l.take i).length = i := by rw [List.length_take]; omega
  rcases hj with hj | hj
  · simp only [List.getD]
    rw [List.append_assoc, List.getElem?_append_left (by omega), List.getElem?_take_of_lt hj]
  · simp only [List.getD]
    rw [List.getElem?_append_right (by simp; omega), List.getElem?_drop]
    congr 2
    simp
    omega
theorem lput_str (l bl : List UInt8) (n i k : Nat) (hl : l.length = n) (h : i + k ≤ n) : (⟨(l.take i ++ bl ++ l.drop (i + k)).toArray⟩ : ByteArray) = (⟨l.toArray⟩ : ByteArray).extract 0 i ++ ⟨bl.toArray⟩ ++ (⟨l.toArray⟩ : ByteArray).extract (i + k) n := by
  apply ByteArray.ext
  apply Array.toList_inj.1
  subst hl
  simp [ByteArray.data_append, ByteArray.data_extract, List.take_drop]
  rw [show i + k + (l.length - (i + k)) = l.length by omega, List.take_length]
theorem smea2 (L j : Nat) (h : j < L) (hL : j ≤ 1000) : L - (intOf (.int .i64 (wrap64 ((j : Int) + 1)))).toNat < L - (intOf (.int .i64 (j : Nat))).toNat := by
  rw [sw64 j hL]
  show L - ((j + 1 : Nat) : Int).toNat < L - ((j : Nat) : Int).toNat
  omega
theorem place_facts (x : Nat × Nat) (n i k : Nat) (hn : n ≤ 300) (hw : i ≤ x.1 ∧ x.1 + x.2 ≤ i + k ∧ x.1 + x.2 ≤ n) : ¬ (x.1 : Int) < (i : Int) ∧ wrap64 ((x.1 : Int) + (x.2 : Int)) = (x.1 : Int) + (x.2 : Int) ∧ IntKind.i64.wrap ((x.1 : Int) + (x.2 : Int)) = (x.1 : Int) + (x.2 : Int) ∧ ¬ (i : Int) + (k : Int) < (x.1 : Int) + (x.2 : Int) :=
  ⟨by omega, aw64 _ _ (by omega), ai64 _ _ (by omega), by omega⟩
/-- A block of n bytes, whatever they are. -/
def RowU (w : World) (g n : Nat) : Prop := ∃ cur : Array Value, w.heap[g]? = some (.cells cur 5 (0, 0)) ∧ cur.size = n ∧ ∀ q, q < n → ∃ z : Int, cur[q]? = some (.int .u8 z)
theorem rowU_of {w : World} {g n : Nat} {L : List UInt8} (hL : L.length = n) (h : w.heap[g]? = some (.cells (u8s L).toArray 5 (0, 0))) : RowU w g n :=
  ⟨_, h, by simp [u8s, hL], fun q hq => ⟨_, by have := u8s_get L q (by omega); simpa using this⟩⟩
theorem RowU.cell {w : World} {g n q : Nat} (h : RowU w g n) (hq : q < n) : ∃ z : Int, w.cell? ⟨g, q, none⟩ = some (.int .u8 z) ∧ w.frozen? ⟨g, q, none⟩ = false := by
  obtain ⟨cur, h1, _, h3⟩ := h
  obtain ⟨z, hz⟩ := h3 q hq
  exact ⟨z, (cell_of_row w g q _ _ _ h1).trans hz, frozen_of_row w g q cur _ h1⟩
theorem RowU.set {w : World} {g n : Nat} (h : RowU w g n) (q : Nat) (z : Int) : RowU (w.setCell ⟨g, q, none⟩ (.int .u8 z)) g n := by
  obtain ⟨cur, h1, h2, h3⟩ := h
  refine ⟨cur.setIfInBounds q (.int .u8 z), heap_setCell_same w g q cur _ _ h1, by simpa using h2, fun r hr => ?_⟩
  obtain ⟨y, hy⟩ := h3 r hr
  by_cases hqr : q = r
  · subst hqr
    exact ⟨z, by simp [Array.getElem?_setIfInBounds, h2, hr]⟩
  · exact ⟨y, by rw [Array.getElem?_setIfInBounds, if_neg hqr]; exact hy⟩
/-- The places of the difference lie within the place. -/
theorem sc_within (d : Nat → Bool) (n i k : Nat) (hd : ∀ j, j < i ∨ i + k ≤ j → d j = false) (x : Nat × Nat) (hx : x ∈ SC.out d n) : i ≤ x.1 ∧ x.1 + x.2 ≤ i + k ∧ x.1 + x.2 ≤ n := by
  obtain ⟨h1, h2, h3⟩ := SC.out_mem d n x hx
  refine ⟨?_, ?_, h2⟩
  · by_cases h : i ≤ x.1
    · exact h
    · have := hd x.1 (.inl (by omega))
      rw [h3 x.1 (Nat.le_refl _) (by omega)] at this
      cases this
  · by_cases h : x.1 + x.2 ≤ i + k
    · exact h
    · have := hd (x.1 + x.2 - 1) (.inr (by omega))
      rw [h3 (x.1 + x.2 - 1) (by omega) (by omega)] at this
      cases this
set_option maxHeartbeats 4000000 in
theorem putL_ok (A B : Option Addr) (n ca cb : Nat) (l bl : List UInt8) (i k : Nat) (hn : n ≤ 300) (hm : k ≤ 300) (hik : i + k ≤ n) (hca : (∃ a, A = some a ∧ n ≤ ca) ∨ (A = none ∧ n = 0 ∧ ca = 0)) (w : World) (hA : By w NoM A n l) (hB : By w NoM B k bl)
    (hlv : ∀ W, Below w.heap.size w W → Calls Tryz.prog 7 #[] W fun e w' => e = .returned (.bool true) ∧ Below W.heap.size W w') :
    Calls Tryz.prog 5 #[.slice A n ca, .agg #[.int .i64 (i : Nat), .int .i64 (k : Nat)], .slice B k cb] w fun e w' => e = .returned (.bool true) ∧ Below w.heap.size w w' := by
  have HLV := Lib.hid hlv
  have HA := Lib.hid hA
  have HB := Lib.hid hB
  have hbx : Below w.heap.size w (w.alloc (.cells #[.int .i64 (i : Nat), .int .i64 (k : Nat)] 23)) := (Below.refl _ w).alloc (Nat.le_refl _) _
  have HBX := Lib.hid hbx
  clear hlv hA hB
  have hkk : ((k : Int) != (k : Int)) = false := by simp
  have hnn : ((n : Int) != (n : Int)) = false := by simp
  have hll : l.length = n := HA.out.1
  have hbl : bl.length = k := HB.out.1
  have HPL := Lib.hid (And.intro (lput_len l bl n i k hll hbl hik) (lput_part l bl n i k hll hbl hik))
  have HGT := Lib.hid (lput_get l bl n i k hll hbl hik)
  have hst := lput_str l bl n i k hll hik
  have HP := Lib.hid (fun W hb hb' => put_ok A n ca i k l B cb bl W (by omega) hik (By.below HA.out hb) (By.below HB.out hb'))
  have HNK := Lib.hid (And.intro hn hik)
  have h1' : ¬ (300 : Int) < (n : Nat) := by omega
  have h2' : ¬ (300 : Int) < (k : Nat) := by omega
  have q0 : ¬ (i : Int) < 0 := by omega
  have q1 : ¬ (k : Int) < 0 := by omega
  have q2 : ¬ (n : Int) < (i : Nat) := by omega
  have q3 : ¬ (n : Int) - (i : Int) < (k : Nat) := by omega
  have q5 : (0 : Int) ≤ (i : Int) + (k : Int) := by omega
  have q6 : (i : Int) + (k : Int) ≤ (n : Int) := by omega
  have q7 : (i : Int) ≤ (i : Int) + (k : Int) := by omega
  have q8 : ((i : Int) + (k : Int)).toNat = i + k := by omega
  have r1 := i64_sub n (i : Nat) (by omega) (by omega) (by omega)
  have r2 := w64_sub n (i : Nat) (by omega) (by omega) (by omega)
  have r3 : wrap64 ((i : Int) + (k : Int)) = (i : Int) + (k : Int) := aw64 i k (by omega)
  have r4 : IntKind.i64.wrap ((i : Int) + (k : Int)) = (i : Int) + (k : Int) := ai64 i k (by omega)
  obtain ⟨S0, hS0⟩ : ∃ S : ByteArray, S = ⟨l.toArray⟩ := ⟨_, rfl⟩
  obtain ⟨S1, hS1⟩ : ∃ S : ByteArray, S = ⟨bl.toArray⟩ := ⟨_, rfl⟩
  have KA := Lib.hid (fun (w' : World) M (h : By w' M A n l) => (run_str_by (c := ca) h).trans (by rw [← hS0]))
  have KB := Lib.hid (fun (w' : World) M (h : By w' M B k bl) => (run_str_by (c := cb) h).trans (by rw [← hS1]))
  have KO := Lib.hid (fun (C : Option Addr) (w' : World) M (h : By w' M C k ((l.take (i + k)).drop i)) => (run_str_by (c := k) h).trans (by rw [ext_part, ← hS0]))
  have hls : S0.size = n := by rw [hS0]; exact HA.out.1
  have HS0 := Lib.hid hS0
  have HS1 := Lib.hid hS1
  have HST : Hid ((⟨(l.take i ++ bl ++ l.drop (i + k)).toArray⟩ : ByteArray) = S0.extract 0 i ++ S1 ++ S0.extract (i + k) n) := Lib.hid (by rw [hst, hS0, hS1])
  clear hst hll hbl
  clear hS0 hS1
  have HG := Lib.hid (fun W hb => get_ok A n ca i k l W (by omega) hik (By.below HA.out hb) hca)
  have hbx2 : Below w.heap.size w (w.alloc (.cells #[.int .i64 (i : Nat), .int .i64 (k : Nat)] 23)).drew := ⟨hbx.os, hbx.tape, hbx.output, hbx.size, hbx.block⟩
  go_enter Tryz.func5, Tryz.ntmps5
  go_upto_region 3 with fail
  refine wp_region_plan 5 [(0, false), (1, false), (2, false), (3, false), (4, false)] (fun w' => By w' NoM A n l ∧ By w' NoM B k bl) (by kernel_rfl) (by kernel_rfl) (fun c a d v w h => by cases d <;> exact h) ⟨HA.out.below hbx2, HB.out.below hbx2⟩ ?_
  repeat
    first
    | (first | refine wpPlan_read (v := ?_) (by rfl) (by rfl) (fun w' hS => ?_) (fun K hK => ?_) | refine wpPlan_readG (v := ?_) (by rfl) (by rfl) (fun w' hS => ?_) (fun K hK => ?_)
       rotate_left
       · obtain ⟨s0, s1⟩ := hS
         have k0 := KA.out _ _ s0
         have k1 := KB.out _ _ s1
         go_simp
         try with_reducible rfl
       go_simp
       refine hK _ ?_
       clear hK K)
    | (refine wpPlan_skip (by rfl) (by rfl) (fun K hK => ?_)
       go_simp
       refine hK _ ?_
       clear hK K)
  show wpList _ _ _ _ _ _
  have hcc : ∀ W', Below (w.alloc (.cells #[.int .i64 (i : Nat), .int .i64 (k : Nat)] 23)).drew.heap.size (w.alloc (.cells #[.int .i64 (i : Nat), .int .i64 (k : Nat)] 23)).drew W' → W'.cell? ⟨w.heap.size, 0, none⟩ = some (.int .i64 (i : Nat)) ∧ W'.cell? ⟨w.heap.size, 1, none⟩ = some (.int .i64 (k : Nat)) := fun W' hb => cells_place _ _ w W' ⟨hb.os, hb.tape, hb.output, hb.size, hb.block⟩
  have HB0 := Lib.hid hbx2
  have HCC := Lib.hid hcc
  obtain ⟨c0, c1⟩ := hcc _ (Below.refl _ _)
  clear hbx hbx2 hcc HBX
  generalize (w.alloc (.cells #[.int .i64 (i : Nat), .int .i64 (k : Nat)] 23)).drew = W0 at HB0 HCC c0 c1 ⊢
  go_wp2_with fail
  refine (HG.out W0 HB0.out).mono ?_
  rintro e w1 ⟨C, rfl, hby, hb1⟩
  obtain ⟨c0', c1'⟩ := HCC.out w1 hb1
  have HB1 := Lib.hid hb1
  clear hb1 c0 c1
  go_upto_region 10 with fail
  refine wp_region_plan 33 [(0, false), (1, false), (2, false), (3, false), (4, false), (5, false), (6, false), (7, false), (8, false), (9, false), (10, false), (11, false), (12, false), (13, false), (14, false), (15, false), (16, false), (17, false), (18, false), (19, false), (20, false), (21, false), (22, false), (23, false), (24, false), (25, false), (26, false), (27, false), (28, false), (29, false), (30, false), (31, false), (32, false)] (fun w' => By w' (· < W0.heap.size) C k ((l.take (i + k)).drop i) ∧ (w'.cell? ⟨w.heap.size, 0, none⟩ = some (.int .i64 (i : Nat)) ∧ w'.cell? ⟨w.heap.size, 1, none⟩ = some (.int .i64 (k : Nat)))) (by kernel_rfl) (by kernel_rfl) (fun c a d v w h => by cases d <;> exact h) ⟨hby, c0', c1'⟩ ?_
  repeat
    first
    | (first | refine wpPlan_read (v := ?_) (by rfl) (by rfl) (fun w' hS => ?_) (fun K hK => ?_) | refine wpPlan_readG (v := ?_) (by rfl) (by rfl) (fun w' hS => ?_) (fun K hK => ?_)
       rotate_left
       · obtain ⟨s0, s1, s2⟩ := hS
         have k0 := KO.out _ _ _ s0
         go_simp
         try with_reducible rfl
       go_simp
       refine hK _ ?_
       clear hK K)
    | (refine wpPlan_skip (by rfl) (by rfl) (fun K hK => ?_)
       go_simp
       refine hK _ ?_
       clear hK K)
  show wpList _ _ _ _ _ _
  have HB2 : Hid (Below W0.heap.size W0 w1.drew) := Lib.hid ⟨HB1.out.os, HB1.out.tape, HB1.out.output, HB1.out.size, HB1.out.block⟩
  obtain ⟨c0, c1⟩ := HCC.out w1.drew HB2.out
  clear HB1 c0' c1' hby
  generalize w1.drew = W2 at HB2 c0 c1 ⊢
  go_wp2_with fail
  have hbw2 : Below w.heap.size w W2 := HB0.out.trans (HB2.out.mono HB0.out.size)
  refine (HP.out W2 hbw2 hbw2).mono ?_
  rintro e w3 ⟨g, rfl, hg1, hrow, hb3⟩
  have HB3 : Hid (Below w.heap.size w w3) := Lib.hid (hbw2.trans (hb3.mono hbw2.size))
  obtain ⟨c0', c1'⟩ := HCC.out w3 (HB2.out.trans (hb3.mono HB2.out.size))
  have HX3 : Hid (Below W0.heap.size W0 w3) := Lib.hid (HB2.out.trans (hb3.mono HB2.out.size))
  have hbyg := by_row HPL.out.1 hrow
  have HBG := Lib.hid hbyg
  have HROW := Lib.hid hrow
  have HG1 : Hid (w.heap.size ≤ g) := Lib.hid (Nat.le_trans hbw2.size hg1)
  have k0 := KA.out w3 _ (HA.out.below HB3.out)
  have k1 := KB.out w3 _ (HB.out.below HB3.out)
  have HGG := Lib.hid (get_ok (some ⟨g, 0, none⟩) n n i k (l.take i ++ bl ++ l.drop (i + k)) w3 (by have := HNK.out; omega) HNK.out.2 hbyg (.inl ⟨_, rfl, Nat.le_refl _⟩))
  have KG := Lib.hid (fun (C : Option Addr) (w' : World) M (h : By w' M C n (l.take i ++ bl ++ l.drop (i + k))) => (run_str_by (c := n) h).trans (by rw [HST.out]))
  have KD := Lib.hid (fun (C : Option Addr) (w' : World) M (h : By w' M C k bl) => (run_str_by (c := k) h).trans (by rw [← HS1.out]))
  clear hb3 c0 c1 HB2 hbw2 hg1 hrow hbyg HP
  go_wp2_with fail
  refine HGG.out.mono ?_
  rintro e w4 ⟨D, rfl, hby4, hb4⟩
  rw [HPL.out.2] at hby4
  have HB4 : Hid (Below w.heap.size w w4) := Lib.hid (HB3.out.trans (hb4.mono HB3.out.size))
  have HX4 : Hid (Below W0.heap.size W0 w4) := Lib.hid (HX3.out.trans (hb4.mono HX3.out.size))
  have HBG4 : Hid (By w4 NoM (some ⟨g, 0, none⟩) n (l.take i ++ bl ++ l.drop (i + k))) := Lib.hid (HBG.out.below hb4)
  have HROW4 : Hid (w4.heap[g]? = some (.cells (u8s (l.take i ++ bl ++ l.drop (i + k))).toArray 5 (0, 0))) := Lib.hid ((hb4.block g (Array.getElem?_eq_some_iff.1 HROW.out).1).trans HROW.out)
  have HBD : Hid (By w4 (· < w3.heap.size) D k bl) := Lib.hid hby4
  have hcg := changed_any A (some ⟨g, 0, none⟩) n ca n (fun j => (l.getD j 0).toNat) (fun j => ((l.take i ++ bl ++ l.drop (i + k)).getD j 0).toNat) w4 (by_bts (HA.out.below HB4.out)) (by_bts HBG4.out) (by have := HNK.out; omega)
  generalize hd : (fun j => (fun j => (l.getD j 0).toNat) j != (fun j => ((l.take i ++ bl ++ l.drop (i + k)).getD j 0).toNat) j) = d at hcg
  have HD : Hid (∀ j, j < i ∨ i + k ≤ j → d j = false) := Lib.hid (fun j hj => by rw [← hd]; simp only; rw [HGT.out j hj]; simp)
  have HCG := Lib.hid hcg
  clear hd hcg hby4 hb4 c0' c1' k0 k1 HGG HROW HBG HB3 HX3
  go_wp2_with fail
  refine HCG.out.mono ?_
  rintro e w5 ⟨E, rfl, hpls, hb5⟩
  have HB5 : Hid (Below w.heap.size w w5) := Lib.hid (HB4.out.trans (hb5.mono HB4.out.size))
  have HX5 : Hid (Below W0.heap.size W0 w5) := Lib.hid (HX4.out.trans (hb5.mono HX4.out.size))
  have HPLS := Lib.hid hpls
  have hbd5 : By w5 (· < w3.heap.size) D k bl := HBD.out.below hb5
  have hbg5 := HBG4.out.below hb5
  have HROW5 : Hid (w5.heap[g]? = some (.cells (u8s (l.take i ++ bl ++ l.drop (i + k))).toArray 5 (0, 0))) := Lib.hid ((hb5.block g (Array.getElem?_eq_some_iff.1 HROW4.out).1).trans HROW4.out)
  obtain ⟨c0, c1⟩ := HCC.out w5 HX5.out
  have HGL : Hid (w.heap.size ≤ w4.heap.size) := Lib.hid HB4.out.size
  clear hpls hb5 HBD HBG4 HROW4 HX4 HCG
  have y1 : (S0.extract 0 i).size ≤ 300 := by rw [ByteArray.size_extract]; have := HNK.out; omega
  have y2 : S1.size ≤ 300 := by rw [HS1.out]; have h9 : bl.length = k := HB.out.1; show bl.length ≤ 300; have := HNK.out; omega
  have y3 : (S0.extract (i + k) n).size ≤ 300 := by rw [ByteArray.size_extract]; have := HNK.out; omega
  have y4 : (S0.extract 0 i ++ S1).size ≤ 600 := by rw [ByteArray.size_append]; omega
  have z1 : ∀ W, (Op.stringOp .add (S0.extract 0 i) S1).run Tryz.prog W = .ok (.string (S0.extract 0 i ++ S1)) W := fun W => run_string_add_sum W _ _ (by omega)
  have z2 : ∀ W, (Op.stringOp .add (S0.extract 0 i ++ S1) (S0.extract (i + k) n)).run Tryz.prog W = .ok (.string (S0.extract 0 i ++ S1 ++ S0.extract (i + k) n)) W := fun W => run_string_add_sum W _ _ (by omega)
  have z3 : ¬ 9223372036854775807 < (S0.extract 0 i).size + S1.size := by omega
  have z4 : ¬ 9223372036854775807 < (S0.extract 0 i ++ S1).size + (S0.extract (i + k) n).size := by omega
  clear y1 y2 y3 y4
  go_upto_region 21 with fail
  refine wp_region_plan 36 [(0, false), (1, false), (2, false), (3, false), (4, false), (5, false), (6, false), (7, false), (8, false), (9, false), (10, false), (11, false), (12, false), (13, false), (14, false), (15, false), (16, false), (17, false), (18, false), (19, false), (20, false), (21, false), (22, false), (23, false), (24, false), (25, false), (26, false), (27, false), (28, false), (29, false), (30, false), (31, false), (32, false), (33, false), (34, false), (35, false)] (fun w' => By w' (· < w3.heap.size) D k bl ∧ (By w' NoM (some ⟨g, 0, none⟩) n (l.take i ++ bl ++ l.drop (i + k)) ∧ (w'.cell? ⟨w.heap.size, 0, none⟩ = some (.int .i64 (i : Nat)) ∧ w'.cell? ⟨w.heap.size, 1, none⟩ = some (.int .i64 (k : Nat))))) (by kernel_rfl) (by kernel_rfl) (fun c a d v w h => by cases d <;> exact h) ⟨hbd5, hbg5, c0, c1⟩ ?_
  repeat
    first
    | (first | refine wpPlan_read (v := ?_) (by rfl) (by rfl) (fun w' hS => ?_) (fun K hK => ?_) | refine wpPlan_readG (v := ?_) (by rfl) (by rfl) (fun w' hS => ?_) (fun K hK => ?_)
       rotate_left
       · obtain ⟨s0, s1, s2, s3⟩ := hS
         have k0 := KD.out _ _ _ s0
         have k1 := KG.out _ _ _ s1
         go_simp
         try with_reducible rfl
       go_simp
       refine hK _ ?_
       clear hK K)
    | (refine wpPlan_skip (by rfl) (by rfl) (fun K hK => ?_)
       go_simp
       refine hK _ ?_
       clear hK K)
  show wpList _ _ _ _ _ _
  have HB6 : Hid (Below w.heap.size w w5.drew) := Lib.hid ⟨HB5.out.os, HB5.out.tape, HB5.out.output, HB5.out.size, HB5.out.block⟩
  have HX6 : Hid (Below W0.heap.size W0 w5.drew) := Lib.hid ⟨HX5.out.os, HX5.out.tape, HX5.out.output, HX5.out.size, HX5.out.block⟩
  have HROW6 : Hid (w5.drew.heap[g]? = some (.cells (u8s (l.take i ++ bl ++ l.drop (i + k))).toArray 5 (0, 0))) := Lib.hid HROW5.out
  have HPL6 : Hid (Pls w5.drew w4.heap.size E (SC.out d n)) := Lib.hid HPLS.out
  clear HB5 HX5 HROW5 HPLS c0 c1 hbd5 hbg5
  generalize w5.drew = w6 at HB6 HX6 HROW6 HPL6 ⊢
  go_wp2_with fail
  go_loopw [18] (fun c W => ∃ j : Nat, j ≤ (SC.out d n).length ∧ c = .int .i64 j ∧ Hid (Below w6.heap.size w6 W)) (fun c _ => (SC.out d n).length - (intOf c).toNat)
  case atStart => exact ⟨0, Nat.zero_le _, rfl, Lib.hid (Below.refl _ _)⟩
  case round =>
    obtain ⟨j, hj, rfl, HJ⟩ := hrel
    have HJL : Hid (j ≤ 300) := Lib.hid (Nat.le_trans hj (Nat.le_trans (SC.out_len d n) HNK.out.1))
    by_cases hlt : j < (SC.out d n).length
    · have hlt' : (j : Int) < ((SC.out d n).length : Nat) := by omega
      obtain ⟨gl, rfl, hl1, hl2, hlc⟩ := HPL6.out (by omega)
      obtain ⟨e0, e1⟩ := hlc j hlt
      have hw := sc_within d n i k HD.out ((SC.out d n)[j]) (List.getElem_mem hlt)
      generalize (SC.out d n)[j] = x at e0 e1 hw
      have d0 : wr.cell? ⟨gl, j * 2, none⟩ = some (.int .i64 (x.1 : Nat)) := (HJ.out.cell (p := ⟨gl, j * 2, none⟩) hl2).trans e0
      have d1 : wr.cell? ⟨gl, j * 2 + 1, none⟩ = some (.int .i64 (x.2 : Nat)) := (HJ.out.cell (p := ⟨gl, j * 2 + 1, none⟩) hl2).trans e1
      obtain ⟨c0, c1⟩ := HCC.out wr (HX6.out.trans (HJ.out.mono HX6.out.size))
      obtain ⟨f1, f2, f3, f4⟩ := place_facts x n i k HNK.out.1 hw
      have HLT := Lib.hid hlt
      clear hl1 hl2 hlc e0 e1 hw hj
      go_upto_region 26 with fail
      refine wp_region_plan 25 [(0, false), (1, false), (2, false), (3, false), (4, false), (5, false), (6, false), (7, false), (8, false), (9, false), (10, false), (11, false), (12, false), (13, false), (14, false), (15, false), (16, false), (17, false), (18, false), (19, false), (20, false), (21, false), (22, false), (23, false), (24, false)] (fun w' => (w'.cell? ⟨gl, j * 2, none⟩ = some (.int .i64 (x.1 : Nat)) ∧ w'.cell? ⟨gl, j * 2 + 1, none⟩ = some (.int .i64 (x.2 : Nat))) ∧ (w'.cell? ⟨w.heap.size, 0, none⟩ = some (.int .i64 (i : Nat)) ∧ w'.cell? ⟨w.heap.size, 1, none⟩ = some (.int .i64 (k : Nat)))) (by kernel_rfl) (by kernel_rfl) (fun c a d v w h => by cases d <;> exact h) ⟨⟨d0, d1⟩, c0, c1⟩ ?_
      repeat
        first
        | (first | refine wpPlan_read (v := ?_) (by rfl) (by rfl) (fun w' hS => ?_) (fun K hK => ?_) | refine wpPlan_readG (v := ?_) (by rfl) (by rfl) (fun w' hS => ?_) (fun K hK => ?_)
           rotate_left
           · obtain ⟨⟨s0, s1⟩, s2, s3⟩ := hS
             go_simp
             try with_reducible rfl
           go_simp
           refine hK _ ?_
           clear hK K)
        | (refine wpPlan_skip (by rfl) (by rfl) (fun K hK => ?_)
           go_simp
           refine hK _ ?_
           clear hK K)
      show wpList _ _ _ _ _ _
      have HJ2 : Hid (Below w6.heap.size w6 wr.drew) := Lib.hid ⟨HJ.out.os, HJ.out.tape, HJ.out.output, HJ.out.size, HJ.out.block⟩
      clear HJ c0 c1 d0 d1
      generalize wr.drew = w7 at HJ2 ⊢
      go_wp2_with fail
      go_roundw
      case rel => exact ⟨j + 1, HLT.out, by rw [sw64 j (Nat.le_trans HJL.out (by decide))], HJ2⟩
      case measure => first | exact smea2 _ _ HLT.out (Nat.le_trans HJL.out (by decide)) | (simp [intOf]; omega)
    · obtain rfl : j = (SC.out d n).length := by omega
      have HROW7 : Hid (wr.heap[g]? = some (.cells (u8s (l.take i ++ bl ++ l.drop (i + k))).toArray 5 (0, 0))) := Lib.hid ((HJ.out.block g (Array.getElem?_eq_some_iff.1 HROW6.out).1).trans HROW6.out)
      have HB7 : Hid (Below w.heap.size w wr) := Lib.hid (HB6.out.trans (HJ.out.mono HB6.out.size))
      clear hlt hj HJ HROW6 HX6 HB6 HPL6 HJL
      generalize wr = w7 at HROW7 HB7 ⊢
      go_wp2_with fail
      go_loopw [19] (fun c W => ∃ q : Nat, q ≤ n ∧ c = .int .i64 q ∧ Hid (RowU W g n ∧ Below w.heap.size w W)) (fun c _ => n - (intOf c).toNat)
      case atStart => exact ⟨0, Nat.zero_le _, rfl, Lib.hid ⟨rowU_of HPL.out.1 HROW7.out, HB7.out⟩⟩
      case round =>
        obtain ⟨q, hq, rfl, HQ⟩ := hrel
        have HQL : Hid (q ≤ 300) := Lib.hid (Nat.le_trans hq HNK.out.1)
        by_cases hqt : q < n
        · have hqt' : (q : Int) < (n : Nat) := by omega
          obtain ⟨z, hz, hfz⟩ := HQ.out.1.cell hqt
          have HQT := Lib.hid hqt
          go_wp2_with fail
          go_roundw
          case rel => exact ⟨q + 1, HQT.out, by first | rfl | rw [sw64 q (Nat.le_trans HQL.out (by decide))], Lib.hid ⟨HQ.out.1.set _ _, HQ.out.2.setCell HG1.out _⟩⟩
          case measure => first | exact smea2 _ _ HQT.out (Nat.le_trans HQL.out (by decide)) | (simp [intOf]; omega)
        · have hqt' : ¬ (q : Int) < (n : Nat) := by omega
          have HBL : Hid (Below w.heap.size w wr) := Lib.hid HQ.out.2
          have k0 := KA.out wr _ (HA.out.below HBL.out)
          have k1 := KB.out wr _ (HB.out.below HBL.out)
          clear HQ
          go_wp2_with fail
          refine (HLV.out _ HBL.out).mono ?_
          rintro e w9 ⟨rfl, hb9⟩
          have HB9 := Lib.hid (HBL.out.trans (hb9.mono HBL.out.size))
          clear hb9
          go_wp2_with fail
          go_ret
          exact ⟨rfl, HB9.out⟩
end Go.Proofs.YtojmckbpafkagaaGreatDoor
