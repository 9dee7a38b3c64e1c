/- DivisionsRange: for at most 20 paragraphs, any name and any section of the five, the law answers true. -/
import Derived.Test.YtpcalgoaccmofaaGreatDoorVLawR
import Derived.Test.YtpcalgoaccmofaaGreatDoorVLawP
set_option linter.unusedVariables false
set_option linter.unusedSimpArgs false
namespace Go.Proofs.YtpcalgoaccmofaaGreatDoor
open Go.RowKit Go.Lib
set_option maxRecDepth 100000
abbrev fewO : Obj := .cells #[.string ⟨#[]⟩, .string ⟨#[65]⟩, .string ⟨#[66]⟩, .string ⟨#[67]⟩, .string ⟨#[68]⟩] 9 (0, 0)
theorem few_at {W : World} {fb : Nat} (h : W.heap[fb]? = some fewO) (k : Nat) (hk : k < 5) : W.cell? ⟨fb, k, none⟩ = some (.string ⟨(nm k).toArray⟩) := by
  rw [cell_of_row W fb k _ _ _ h]
  match k, hk with
  | 0, _ => rfl
  | 1, _ => rfl
  | 2, _ => rfl
  | 3, _ => rfl
  | 4, _ => rfl
theorem pgCells_snoc (l : List (VB × VB)) (x : VB × VB) : pgCells (l ++ [x]) = pgCells l ++ pgRow x := by simp [pgCells]
theorem push3 (h : Array Obj) (a b c : Obj) : ((((h.push a).push b).push c)[h.size]? = some a ∧ (((h.push a).push b).push c)[h.size + 1]? = some b) ∧ (((h.push a).push b).push c)[h.size + 1 + 1]? = some c := by
  refine ⟨⟨?_, ?_⟩, ?_⟩
  · rw [Array.getElem?_push, if_neg (by simp; omega), Array.getElem?_push, if_neg (by simp), Array.getElem?_push, if_pos rfl]
  · rw [Array.getElem?_push, if_neg (by simp), Array.getElem?_push, if_pos (by simp)]
  · rw [Array.getElem?_push, if_pos (by simp)]
theorem vmea2 (L j : Nat) (h : j < L) : L - (intOf (.int .i64 ((j : Int) + 1))).toNat < L - (intOf (.int .i64 (j : Nat))).toNat := by
  show L - ((j : Int) + 1).toNat < L - ((j : Int)).toNat
  omega
theorem pgCells_get : ∀ (l : List (VB × VB)) (j : Nat) (h : j < l.length), (pgCells l)[j * 5]? = some (.string ⟨l[j].2.toArray⟩) ∧ (pgCells l)[j * 5 + 1]? = some (.string ⟨l[j].1.toArray⟩) ∧ (pgCells l)[j * 5 + 2]? = some (.slice none 0 0) ∧ (pgCells l)[j * 5 + 3]? = some (.int .i64 0) ∧ (pgCells l)[j * 5 + 4]? = some (.int .i64 0)
  | [], j, h => by simp at h
  | x :: l, 0, h => ⟨rfl, rfl, rfl, rfl, rfl⟩
  | x :: l, j + 1, h => by
    have := pgCells_get l j (by simpa using h)
    rw [show (j + 1) * 5 = j * 5 + 5 by omega]
    simpa [pgCells] using this
theorem pg_at {W : World} {base n c : Nat} {A : Option Addr} {xs : List (VB × VB)} (h : W.ownsRow base 36 5 (.slice A n c) n (pgCells xs)) (hn : xs.length = n) : PgAt W A xs := fun h0 => by
  rcases h.2 with ⟨_, h1⟩ | ⟨g, cap, cur, e, _⟩
  · omega
  · injection e with e1 e2 e3
    subst e1
    have hlt := (h.lt g rfl).2
    refine ⟨g, rfl, hlt, fun j hj => ?_⟩
    have hc := fun i u (hu : (pgCells xs)[i]? = some u) => h.cells (g := g) rfl i u hu
    have hadd : ∀ i, (⟨g, 0, none⟩ : Addr).add i = ⟨g, i, none⟩ := fun i => by unfold Addr.add; split <;> simp_all
    simp only [hadd] at hc
    obtain ⟨h1, h2, h3, h4, h5⟩ := pgCells_get xs j hj
    exact ⟨hc _ _ h1, hc _ _ h2, hc _ _ h3, hc _ _ h4, hc _ _ h5⟩
/-- The worlds of the first loop. -/
structure L1 (w3 : World) (base pb : Nat) (xs : List (VB × VB)) (j : Nat) (v : Value) (W : World) : Prop where
  own : W.ownsRow base 36 5 v j (pgCells (xs.take j))
  row : W.heap[pb]? = some (pgO v)
  fr : PgFr base pb w3 W
set_option maxHeartbeats 1000000 in
theorem law_small (A : Option Addr) (ca : Nat) (ls : List (Nat × Nat)) (z0 z1 : Nat) (w : World) (hb : ∀ p ∈ ls, p.1 < 256 ∧ p.2 < 256) (hz : z0 < 256 ∧ z1 < 256)
    (hA : 0 < ls.length → ∃ g o, A = some ⟨g, o, none⟩ ∧ g < w.heap.size ∧ ∀ j (h : j < ls.length), w.cell? ⟨g, o + j * 2, none⟩ = some (.int .u8 (ls[j].1 : Nat)) ∧ w.cell? ⟨g, o + j * 2 + 1, none⟩ = some (.int .u8 (ls[j].2 : Nat)))
    (hl : ls.length ≤ 20)
    (hlv : ∀ W, Below w.heap.size w W → Calls Tryz.prog 4 #[] W fun e w' => e = .returned (.bool true) ∧ Below W.heap.size W w') :
    Calls Tryz.prog 3 #[.slice A ls.length ca, .agg #[.int .u8 (z0 : Nat), .int .u8 (z1 : Nat)]] w fun e w' => e = .returned (.bool true) ∧ Below w.heap.size w w' := by
  have HA := Lib.hid hA
  have HL := Lib.hid hl
  have HLV := Lib.hid hlv
  have HBY := Lib.hid hb
  have HZ := Lib.hid hz
  have h20 : ¬ (20 : Int) < (ls.length : Nat) := by omega
  clear hA hl hlv hb hz
  go_enter Tryz.func3, Tryz.ntmps3
  go_wp2
  have hs3 : (((w.alloc (.cells #[.int .u8 (z0 : Nat), .int .u8 (z1 : Nat)] 23)).alloc fewO).alloc (pgO (.slice none 0 0))).heap.size = w.heap.size + 3 := by simp
  have hzr : (((w.alloc (.cells #[.int .u8 (z0 : Nat), .int .u8 (z1 : Nat)] 23)).alloc fewO).alloc (pgO (.slice none 0 0))).heap[w.heap.size]? = some (.cells #[.int .u8 (z0 : Nat), .int .u8 (z1 : Nat)] 23 (0, 0)) := by
    exact (push3 w.heap _ _ _).1.1
  have hfw : (((w.alloc (.cells #[.int .u8 (z0 : Nat), .int .u8 (z1 : Nat)] 23)).alloc fewO).alloc (pgO (.slice none 0 0))).heap[w.heap.size + 1]? = some fewO := by
    exact (push3 w.heap _ _ _).1.2
  have hpr : (((w.alloc (.cells #[.int .u8 (z0 : Nat), .int .u8 (z1 : Nat)] 23)).alloc fewO).alloc (pgO (.slice none 0 0))).heap[w.heap.size + 1 + 1]? = some (pgO (.slice none 0 0)) := by
    exact (push3 w.heap _ _ _).2
  have hbb : Below w.heap.size w (((w.alloc (.cells #[.int .u8 (z0 : Nat), .int .u8 (z1 : Nat)] 23)).alloc fewO).alloc (pgO (.slice none 0 0))) := (((Below.refl w.heap.size w).alloc (Nat.le_refl _) _).alloc (by simp) _).alloc (by simp; omega) _
  have HS3 := Lib.hid hs3
  have HZR := Lib.hid hzr
  have HFW := Lib.hid hfw
  have HPR := Lib.hid hpr
  have HBB := Lib.hid hbb
  clear hs3 hzr hfw hpr hbb
  generalize (((w.alloc (.cells #[.int .u8 (z0 : Nat), .int .u8 (z1 : Nat)] 23)).alloc fewO).alloc (pgO (.slice none 0 0))) = w3 at HS3 HZR HFW HPR HBB ⊢
  have HXL : Hid ((xsOf ls).length = ls.length) := Lib.hid (by simp [xsOf])
  go_loopw [7] (fun i W => ∃ j : Nat, j ≤ ls.length ∧ i = .int .i64 j ∧ Hid (∃ v, L1 w3 (w.heap.size + 3) (w.heap.size + 1 + 1) (xsOf ls) j v W)) (fun i _ => ls.length - (intOf i).toNat)
  case atStart => exact ⟨0, Nat.zero_le _, rfl, Lib.hid ⟨_, ⟨by have := World.ownsRow_nil w3 (w.heap.size + 3) 36 5; simpa [pgCells] using this, HPR.out, PgFr.refl _ _ _⟩⟩⟩
  case round =>
    obtain ⟨j, hj, rfl, H1⟩ := hrel
    obtain ⟨v, hL1⟩ := H1.out
    have HL1 := Lib.hid hL1
    clear H1 hL1
    by_cases hlt : j < ls.length
    · obtain ⟨g, o, rfl, hg, hc⟩ := HA.out (by omega)
      obtain ⟨c0, c1⟩ := hc j hlt
      have hjl : (j : Int) < (ls.length : Nat) := by omega
      have hfg : ∀ w' off, Below wr.heap.size wr w' → w'.cell? ⟨g, off, none⟩ = w.cell? ⟨g, off, none⟩ := fun w' off hb => by
        rw [hb.cell (p := ⟨g, off, none⟩) (by have := HL1.out.fr.size; have := HS3.out; show g < _; omega), World.cell?_of_block (a := ⟨g, off, none⟩) (HL1.out.fr.block g (by omega) (by omega))]
        exact HBB.out.cell (p := ⟨g, off, none⟩) hg
      have hff : ∀ w', Below wr.heap.size wr w' → w'.heap[w.heap.size + 1]? = some fewO := fun w' hb => by
        rw [hb.block _ (by have := HL1.out.fr.size; have := HS3.out; omega), HL1.out.fr.block _ (by omega) (by omega)]; exact HFW.out
      have HLT := Lib.hid hlt
      have HXJ : Hid ((xsOf ls).take (j + 1) = (xsOf ls).take j ++ [(nm (ls[j].1 % 5), nm (ls[j].2 % 5))]) := Lib.hid (by
        rw [List.take_succ_eq_append_getElem (by rw [HXL.out]; exact hlt)];
        congr 2
        simp [xsOf]
        exact ⟨rfl, rfl⟩)
      have HCA : Hid (∀ w', Below wr.heap.size wr w' → w'.cell? ⟨g, o + j * 2, none⟩ = some (.int .u8 (ls[j].1 : Nat)) ∧ w'.cell? ⟨g, o + j * 2 + 1, none⟩ = some (.int .u8 (ls[j].2 : Nat))) := Lib.hid (fun w' hb => ⟨(hfg w' _ hb).trans c0, (hfg w' _ hb).trans c1⟩)
      have HCF : Hid (∀ w', Below wr.heap.size wr w' → w'.cell? ⟨w.heap.size + 1, ls[j].1 % 5, none⟩ = some (.string ⟨(nm (ls[j].1 % 5)).toArray⟩) ∧ w'.cell? ⟨w.heap.size + 1, ls[j].2 % 5, none⟩ = some (.string ⟨(nm (ls[j].2 % 5)).toArray⟩)) := Lib.hid (fun w' hb => ⟨few_at (hff w' hb) _ (Nat.mod_lt _ (by decide)), few_at (hff w' hb) _ (Nat.mod_lt _ (by decide))⟩)
      have HCP : Hid (∀ w', Below wr.heap.size wr w' → w'.cell? ⟨w.heap.size + 1 + 1, 8, none⟩ = some v) := Lib.hid (fun w' hb => by
        rw [cell_of_row w' _ 8 _ _ _ ((hb.block _ (by have := HL1.out.fr.size; have := HS3.out; omega)).trans HL1.out.row)]; rfl)
      have HTA := Lib.hid (tmod5 ls[j].1)
      have HTB := Lib.hid (tmod5 ls[j].2)
      have HM : Hid ((((ls[j].1 % 5 : Nat) : Int) < 5) ∧ (((ls[j].2 % 5 : Nat) : Int) < 5)) := Lib.hid (by omega)
      generalize ls[j] = y at HXJ HCA HCF HTA HTB HM c0 c1
      have HBS : Hid (w.heap.size + 1 + 1 < w.heap.size + 3 ∧ w.heap.size + 3 ≤ wr.heap.size ∧ j ≤ 1000) := Lib.hid (by have := HL1.out.fr.size; have := HS3.out; have := HL.out; omega)
      clear hc c0 c1 hfg hff hlt hg
      go_upto_region 8 with fail
      refine law8 (fun c a d v w h => by cases d <;> exact h) HCA HCF HCP hjl HM.out.1 HM.out.2 HTA.out HTB.out (Lib.hid HL1.out.own) (Lib.hid HL1.out.row) HBS.out _ _ _ _ _ _ _ _ _ _ _ _ _ _ _ _ _ _ _ _ _ _ _ _ _ _ _ _ _ _ _ _ _ _ _ _ _ _ _ _ _ _ _ _ _ _ _ _ _ _ _ _ _ _ _ _ _ _ _ _ _ _ _ _ _ _ _ _ _ _ _ _ _ _ _ _ _ _ _ _ _ _ _ _ _ _ _ _ _ _ _ _ _ _ _ _ _ _ _ _ _ _ _ _ _ _ _ _ _ _ _ _ _ _ _ _ _ _ _ _ _ _ _ _ _ _ _ _ _ _ _ _ _ _ _ _ _ _ _ _ _ _ _ _ _ _ _ _ _ _ _ _ _ _ _ _ _ _ _ _ _ _ ?_
      intro d30 d31 d32 d33 d34 d35 d36 d37 d38 d39 d40 d41 d42 d43 d44 d45 d46 d47 d48 d49 d50 d51 d52 d53 v' W' ho hr hf
      have HL2 : Hid (L1 w3 (w.heap.size + 3) (w.heap.size + 1 + 1) (xsOf ls) (j + 1) v' W') := Lib.hid ⟨by rw [HXJ.out, pgCells_snoc]; exact ho, hr, HL1.out.fr.trans hf⟩
      have HWJ := Lib.hid (vw64i j (by have := HL.out; have := HLT.out; omega))
      clear ho hr hf HCA HCF HCP HTA HTB HM HXJ HL1 HBS
      go_wp2_with fail
      go_roundw
      case rel => exact ⟨j + 1, HLT.out, by simp [HWJ.out], Lib.hid ⟨_, HL2.out⟩⟩
      case measure => first | exact vmea2 _ _ HLT.out | exact vmea _ _ HLT.out (by have := HL.out; omega)
    · obtain rfl : j = ls.length := by omega
      have hend : (xsOf ls).take ls.length = xsOf ls := List.take_of_length_le (by rw [HXL.out]; exact Nat.le_refl _)
      obtain ⟨Ap, cp, rfl⟩ := own_sliceV HL1.out.own
      have HOW : Hid (wr.ownsRow (w.heap.size + 3) 36 5 (.slice Ap ls.length cp) ls.length (pgCells (xsOf ls))) := Lib.hid (by have := HL1.out.own; rw [hend] at this; exact this)
      have HBS : Hid (w.heap.size + 3 ≤ wr.heap.size) := Lib.hid (by have := HL1.out.fr.size; have := HS3.out; omega)
      have HCZ : Hid (∀ w', Below wr.heap.size wr w' → w'.cell? ⟨w.heap.size, 0, none⟩ = some (.int .u8 (z0 : Nat)) ∧ w'.cell? ⟨w.heap.size, 1, none⟩ = some (.int .u8 (z1 : Nat))) := Lib.hid (fun w' hb => by
        have h := (hb.block w.heap.size (by have := HBS.out; omega)).trans ((HL1.out.fr.block w.heap.size (by omega) (by omega)).trans HZR.out)
        exact ⟨cell_of_row w' _ 0 _ _ _ h, cell_of_row w' _ 1 _ _ _ h⟩)
      have HCF : Hid (∀ w', Below wr.heap.size wr w' → w'.cell? ⟨w.heap.size + 1, z0 % 5, none⟩ = some (.string ⟨(nm (z0 % 5)).toArray⟩) ∧ w'.cell? ⟨w.heap.size + 1, z1 % 5, none⟩ = some (.string ⟨(nm (z1 % 5)).toArray⟩)) := Lib.hid (fun w' hb => by
        have h := (hb.block (w.heap.size + 1) (by have := HBS.out; omega)).trans ((HL1.out.fr.block (w.heap.size + 1) (by omega) (by omega)).trans HFW.out)
        exact ⟨few_at h _ (Nat.mod_lt _ (by decide)), few_at h _ (Nat.mod_lt _ (by decide))⟩)
      have HTA := Lib.hid (tmod5 z0)
      have HTB := Lib.hid (tmod5 z1)
      have HM : Hid ((((z0 % 5 : Nat) : Int) < 5) ∧ (((z1 % 5 : Nat) : Int) < 5)) := Lib.hid (by omega)
      have HFR : Hid (Below w.heap.size w wr) := Lib.hid ⟨HL1.out.fr.os.trans HBB.out.os, HL1.out.fr.tape.trans HBB.out.tape, HL1.out.fr.output.trans HBB.out.output, Nat.le_trans HBB.out.size HL1.out.fr.size, fun k hk => (HL1.out.fr.block k (by omega) (by omega)).trans (HBB.out.block k hk)⟩
      have HRW := Lib.hid HL1.out.row
      clear hlt hj hend HL1
      go_upto_region 9 with fail
      refine law9 (fun c a d v w h => by cases d <;> exact h) HCZ HCF HM.out.1 HM.out.2 HTA.out HTB.out _ _ _ _ _ _ _ _ _ _ _ _ _ _ _ _ _ _ _ _ _ _ _ _ _ _ _ _ _ _ _ _ _ _ _ _ _ _ _ _ _ _ _ _ _ _ _ _ _ _ _ _ _ _ _ _ _ _ _ _ _ _ _ _ _ _ _ _ _ _ _ _ _ _ _ _ _ _ _ _ _ _ _ _ _ _ _ _ _ _ _ _ _ _ _ _ _ _ _ _ _ _ _ _ _ _ _ _ _ _ _ _ _ _ _ _ _ _ _ _ _ _ _ _ _ _ _ _ _ _ _ _ _ _ _ _ _ _ _ _ _ _ _ _ _ _ _ _ _ _ _ _ _ _ _ _ _ _ _ _ _ _ _ _ ?_
      intro d54 d55 d56 d57 d58 d59 d60 d61 d62 d63 d64 d65 W4 hb4
      have HO4 : Hid (W4.ownsRow (w.heap.size + 3) 36 5 (.slice Ap ls.length cp) ls.length (pgCells (xsOf ls))) := Lib.hid (own_sameV HOW.out (fun k hk => hb4.block k (HOW.out.lt k hk).2))
      have HR4 : Hid (W4.heap[w.heap.size + 1 + 1]? = some (pgO (.slice Ap ls.length cp))) := Lib.hid ((hb4.block _ (by have := HBS.out; omega)).trans HRW.out)
      have HW4 := Lib.hid (HFR.out.trans (hb4.mono HFR.out.size))
      have HB4 : Hid (w.heap.size + 3 ≤ W4.heap.size) := Lib.hid (Nat.le_trans HBS.out hb4.size)
      clear HCZ HCF HTA HTB HM HFR HRW HOW HBS hb4 HA HZR HFW HPR HBB HS3 HBY HZ
      generalize nm (z0 % 5) = n
      generalize nm (z1 % 5) = sc
      have HPG : Hid (PgAt W4 Ap (xsOf ls)) := Lib.hid (pg_at HO4.out (by rw [HXL.out]))
      by_cases hn : n = []
      · subst hn
        have e0 : (⟨([] : VB).toArray⟩ : ByteArray) = ⟨#[]⟩ := rfl
        rw [e0]
        clear e0
        generalize hsb : (⟨sc.toArray⟩ : ByteArray) = sb
        have HEND := Lib.hid (law_end (xsOf ls) [] sc)
        have HRG : Hid (∀ W, Below W4.heap.size W4 W → Calls Tryz.prog 5 #[pgV Ap ls.length cp, .string ⟨#[]⟩, .string sb] W fun e w' => e = .returned (.tuple #[.int .i64 (rgOut (VR.run (rg (xsOf ls) [] sc) (xsOf ls) (xsOf ls).length)).1, .int .i64 (rgOut (VR.run (rg (xsOf ls) [] sc) (xsOf ls) (xsOf ls).length)).2.1, .int .i64 (rgOut (VR.run (rg (xsOf ls) [] sc) (xsOf ls) (xsOf ls).length)).2.2]) ∧ Below W.heap.size W w') := Lib.hid (fun W hb => by
          have h := range_any (xsOf ls) Ap cp [] sc W (HPG.out.below hb) (by rw [HXL.out]; have := HL.out; omega)
          rw [show pgV Ap (xsOf ls).length cp = pgV Ap ls.length cp by rw [HXL.out]] at h
          rw [hsb] at h
          exact h)
        generalize rgOut (VR.run (rg (xsOf ls) [] sc) (xsOf ls) (xsOf ls).length) = o at HEND HRG
        go_wp2_with fail
        go_loopw [10, 11, 12, 13] (fun m a b i W => ∃ k : Nat, k ≤ ls.length ∧ i = .int .i64 k ∧ m = .int .i64 (lwEnd (xsOf ls) [] sc k).2.2 ∧ a = .int .i64 (lwEnd (xsOf ls) [] sc k).1 ∧ b = .int .i64 (lwEnd (xsOf ls) [] sc k).2.1 ∧ Hid (Below W4.heap.size W4 W)) (fun _ _ _ i _ => ls.length - (intOf i).toNat)
        case atStart => exact ⟨0, Nat.zero_le _, rfl, by simp [lwEnd, VR.run], by simp [lwEnd, VR.run], by simp [lwEnd, VR.run], Lib.hid (Below.refl _ _)⟩
        case round =>
          obtain ⟨k, hk, rfl, rfl, rfl, rfl, HB5⟩ := hrel
          have HKE : Hid ((lwEnd (xsOf ls) [] sc k) = (lwEnd (xsOf ls) [] sc ls.length)) := Lib.hid (by simp [lwEnd])
          rw [HKE.out]
          by_cases hlt : k < ls.length
          · have hkl : (k : Int) < (ls.length : Nat) := by omega
            clear hlt hk HKE
            have HE2 : Hid (((lwEnd (xsOf ls) [] sc ls.length).2.2 = 0 ∧ o = (0, 0, 7)) ∨ ((lwEnd (xsOf ls) [] sc ls.length).2.2 = 1 ∧ o = ((lwEnd (xsOf ls) [] sc ls.length).1, (lwEnd (xsOf ls) [] sc ls.length).2.1, 0)) ∨ (1 < (lwEnd (xsOf ls) [] sc ls.length).2.2 ∧ o = (0, 0, 17))) := Lib.hid (by have h := HEND.out; rw [HXL.out] at h; exact h)
            clear HEND
            generalize lwEnd (xsOf ls) [] sc ls.length = t at HE2 ⊢
            obtain ⟨ta, tb, tm⟩ := t
            simp only at HE2 ⊢
            go_upto_region 23 with fail
            have HPV : Hid (wr.heap[w.heap.size + 1 + 1]? = some (pgO (.slice Ap ls.length cp))) := Lib.hid ((HB5.out.block _ (by have := HB4.out; omega)).trans HR4.out)
            have hc0 : wr.cell? ⟨w.heap.size + 1 + 1, 0, none⟩ = some (.string ⟨#[]⟩) := by rw [cell_of_row wr _ 0 _ _ _ HPV.out]; rfl
            have hc1 : wr.cell? ⟨w.heap.size + 1 + 1, 1, none⟩ = some (.slice none 0 0) := by rw [cell_of_row wr _ 1 _ _ _ HPV.out]; rfl
            have hc2 : wr.cell? ⟨w.heap.size + 1 + 1, 2, none⟩ = some (.slice none 0 0) := by rw [cell_of_row wr _ 2 _ _ _ HPV.out]; rfl
            have hc3 : wr.cell? ⟨w.heap.size + 1 + 1, 3, none⟩ = some (.slice none 0 0) := by rw [cell_of_row wr _ 3 _ _ _ HPV.out]; rfl
            have hc4 : wr.cell? ⟨w.heap.size + 1 + 1, 4, none⟩ = some (.slice none 0 0) := by rw [cell_of_row wr _ 4 _ _ _ HPV.out]; rfl
            have hc5 : wr.cell? ⟨w.heap.size + 1 + 1, 5, none⟩ = some (.slice none 0 0) := by rw [cell_of_row wr _ 5 _ _ _ HPV.out]; rfl
            have hc6 : wr.cell? ⟨w.heap.size + 1 + 1, 6, none⟩ = some (.slice none 0 0) := by rw [cell_of_row wr _ 6 _ _ _ HPV.out]; rfl
            have hc7 : wr.cell? ⟨w.heap.size + 1 + 1, 7, none⟩ = some (.slice none 0 0) := by rw [cell_of_row wr _ 7 _ _ _ HPV.out]; rfl
            have hc8 : wr.cell? ⟨w.heap.size + 1 + 1, 8, none⟩ = some (.slice Ap ls.length cp) := by rw [cell_of_row wr _ 8 _ _ _ HPV.out]; rfl
            clear HPV
            go_wp2_with fail
            refine (HRG.out wr HB5.out).mono ?_
            rintro e W6 ⟨rfl, hb6⟩
            have HB6 := Lib.hid (HW4.out.trans ((HB5.out.trans (hb6.mono HB5.out.size)).mono HW4.out.size))
            clear hb6 HRG
            rcases HE2.out with ⟨h1, h2⟩ | ⟨h1, h2⟩ | ⟨h1, h2⟩
            · subst h1
              subst h2
              go_wp2_with fail
              refine (HLV.out W6 HB6.out).mono ?_
              rintro e W7 ⟨rfl, hb7⟩
              have HB7 := Lib.hid (HB6.out.trans (hb7.mono HB6.out.size))
              go_wp2_with fail
              go_ret
              exact ⟨rfl, HB7.out⟩
            · subst h1
              subst h2
              go_wp2_with fail
              refine (HLV.out W6 HB6.out).mono ?_
              rintro e W7 ⟨rfl, hb7⟩
              have HB7 := Lib.hid (HB6.out.trans (hb7.mono HB6.out.size))
              go_wp2_with fail
              go_ret
              exact ⟨rfl, HB7.out⟩
            · subst h2
              go_wp2_with fail
              refine (HLV.out W6 HB6.out).mono ?_
              rintro e W7 ⟨rfl, hb7⟩
              have HB7 := Lib.hid (HB6.out.trans (hb7.mono HB6.out.size))
              go_wp2_with fail
              go_ret
              exact ⟨rfl, HB7.out⟩
          · obtain rfl : k = ls.length := by omega
            clear hlt hk HKE
            have HE2 : Hid (((lwEnd (xsOf ls) [] sc ls.length).2.2 = 0 ∧ o = (0, 0, 7)) ∨ ((lwEnd (xsOf ls) [] sc ls.length).2.2 = 1 ∧ o = ((lwEnd (xsOf ls) [] sc ls.length).1, (lwEnd (xsOf ls) [] sc ls.length).2.1, 0)) ∨ (1 < (lwEnd (xsOf ls) [] sc ls.length).2.2 ∧ o = (0, 0, 17))) := Lib.hid (by have h := HEND.out; rw [HXL.out] at h; exact h)
            clear HEND
            generalize lwEnd (xsOf ls) [] sc ls.length = t at HE2 ⊢
            obtain ⟨ta, tb, tm⟩ := t
            simp only at HE2 ⊢
            go_upto_region 23 with fail
            have HPV : Hid (wr.heap[w.heap.size + 1 + 1]? = some (pgO (.slice Ap ls.length cp))) := Lib.hid ((HB5.out.block _ (by have := HB4.out; omega)).trans HR4.out)
            have hc0 : wr.cell? ⟨w.heap.size + 1 + 1, 0, none⟩ = some (.string ⟨#[]⟩) := by rw [cell_of_row wr _ 0 _ _ _ HPV.out]; rfl
            have hc1 : wr.cell? ⟨w.heap.size + 1 + 1, 1, none⟩ = some (.slice none 0 0) := by rw [cell_of_row wr _ 1 _ _ _ HPV.out]; rfl
            have hc2 : wr.cell? ⟨w.heap.size + 1 + 1, 2, none⟩ = some (.slice none 0 0) := by rw [cell_of_row wr _ 2 _ _ _ HPV.out]; rfl
            have hc3 : wr.cell? ⟨w.heap.size + 1 + 1, 3, none⟩ = some (.slice none 0 0) := by rw [cell_of_row wr _ 3 _ _ _ HPV.out]; rfl
            have hc4 : wr.cell? ⟨w.heap.size + 1 + 1, 4, none⟩ = some (.slice none 0 0) := by rw [cell_of_row wr _ 4 _ _ _ HPV.out]; rfl
            have hc5 : wr.cell? ⟨w.heap.size + 1 + 1, 5, none⟩ = some (.slice none 0 0) := by rw [cell_of_row wr _ 5 _ _ _ HPV.out]; rfl
            have hc6 : wr.cell? ⟨w.heap.size + 1 + 1, 6, none⟩ = some (.slice none 0 0) := by rw [cell_of_row wr _ 6 _ _ _ HPV.out]; rfl
            have hc7 : wr.cell? ⟨w.heap.size + 1 + 1, 7, none⟩ = some (.slice none 0 0) := by rw [cell_of_row wr _ 7 _ _ _ HPV.out]; rfl
            have hc8 : wr.cell? ⟨w.heap.size + 1 + 1, 8, none⟩ = some (.slice Ap ls.length cp) := by rw [cell_of_row wr _ 8 _ _ _ HPV.out]; rfl
            clear HPV
            go_wp2_with fail
            refine (HRG.out wr HB5.out).mono ?_
            rintro e W6 ⟨rfl, hb6⟩
            have HB6 := Lib.hid (HW4.out.trans ((HB5.out.trans (hb6.mono HB5.out.size)).mono HW4.out.size))
            clear hb6 HRG
            rcases HE2.out with ⟨h1, h2⟩ | ⟨h1, h2⟩ | ⟨h1, h2⟩
            · subst h1
              subst h2
              go_wp2_with fail
              refine (HLV.out W6 HB6.out).mono ?_
              rintro e W7 ⟨rfl, hb7⟩
              have HB7 := Lib.hid (HB6.out.trans (hb7.mono HB6.out.size))
              go_wp2_with fail
              go_ret
              exact ⟨rfl, HB7.out⟩
            · subst h1
              subst h2
              go_wp2_with fail
              refine (HLV.out W6 HB6.out).mono ?_
              rintro e W7 ⟨rfl, hb7⟩
              have HB7 := Lib.hid (HB6.out.trans (hb7.mono HB6.out.size))
              go_wp2_with fail
              go_ret
              exact ⟨rfl, HB7.out⟩
            · subst h2
              go_wp2_with fail
              refine (HLV.out W6 HB6.out).mono ?_
              rintro e W7 ⟨rfl, hb7⟩
              have HB7 := Lib.hid (HB6.out.trans (hb7.mono HB6.out.size))
              go_wp2_with fail
              go_ret
              exact ⟨rfl, HB7.out⟩
      · obtain ⟨q1, q2⟩ := vnil hn
        have HN := Lib.hid hn
        have HEQ := Lib.hid (fun x : VB => veq x n)
        clear hn
        generalize hnb : (⟨n.toArray⟩ : ByteArray) = nb at HEQ q1 q2 ⊢
        by_cases hs : sc = []
        · subst hs
          have e0 : (⟨([] : VB).toArray⟩ : ByteArray) = ⟨#[]⟩ := rfl
          rw [e0]
          clear e0
          have HEND := Lib.hid (law_end (xsOf ls) n [])
          have HRG : Hid (∀ W, Below W4.heap.size W4 W → Calls Tryz.prog 5 #[pgV Ap ls.length cp, .string nb, .string ⟨#[]⟩] W fun e w' => e = .returned (.tuple #[.int .i64 (rgOut (VR.run (rg (xsOf ls) n []) (xsOf ls) (xsOf ls).length)).1, .int .i64 (rgOut (VR.run (rg (xsOf ls) n []) (xsOf ls) (xsOf ls).length)).2.1, .int .i64 (rgOut (VR.run (rg (xsOf ls) n []) (xsOf ls) (xsOf ls).length)).2.2]) ∧ Below W.heap.size W w') := Lib.hid (fun W hb => by
            have h := range_any (xsOf ls) Ap cp n [] W (HPG.out.below hb) (by rw [HXL.out]; have := HL.out; omega)
            rw [show pgV Ap (xsOf ls).length cp = pgV Ap ls.length cp by rw [HXL.out]] at h
            rw [hnb] at h
            exact h)
          generalize rgOut (VR.run (rg (xsOf ls) n []) (xsOf ls) (xsOf ls).length) = o at HEND HRG
          go_wp2_with fail
          go_loopw [10, 11, 12, 13] (fun m a b i W => ∃ k : Nat, k ≤ ls.length ∧ i = .int .i64 k ∧ m = .int .i64 (lwEnd (xsOf ls) n [] k).2.2 ∧ a = .int .i64 (lwEnd (xsOf ls) n [] k).1 ∧ b = .int .i64 (lwEnd (xsOf ls) n [] k).2.1 ∧ Hid (Below W4.heap.size W4 W)) (fun _ _ _ i _ => ls.length - (intOf i).toNat)
          case atStart => exact ⟨0, Nat.zero_le _, rfl, by rw [lwEnd, if_neg HN.out]; rfl, by rw [lwEnd, if_neg HN.out]; rfl, by rw [lwEnd, if_neg HN.out]; rfl, Lib.hid (Below.refl _ _)⟩
          case round =>
            obtain ⟨k, hk, rfl, rfl, rfl, rfl, HB5⟩ := hrel
            by_cases hlt : k < ls.length
            · have hkl : (k : Int) < (ls.length : Nat) := by omega
              have HLT := Lib.hid hlt
              have hkx : k < (xsOf ls).length := by rw [HXL.out]; exact hlt
              have hkp : k - 1 < (xsOf ls).length := by omega
              obtain ⟨g, rfl, hg, hc⟩ := HPG.out (by omega)
              have HG := Lib.hid hg
              have HCC := Lib.hid hc
              have HX := Lib.hid (List.getElem?_eq_getElem hkx)
              have HXP : Hid (0 < k → (xsOf ls)[k - 1]? = some (xsOf ls)[k - 1]) := Lib.hid (fun _ => List.getElem?_eq_getElem hkp)
              have HWT : Hid (∀ w', Below wr.heap.size wr w' → Below W4.heap.size W4 w') := Lib.hid (fun w' hb => HB5.out.trans (hb.mono HB5.out.size))
              have HC : Hid (∀ w', Below wr.heap.size wr w' → w'.cell? ⟨g, k * 5, none⟩ = some (.string ⟨(xsOf ls)[k].2.toArray⟩) ∧ w'.cell? ⟨g, k * 5 + 1, none⟩ = some (.string ⟨(xsOf ls)[k].1.toArray⟩) ∧ w'.cell? ⟨g, k * 5 + 2, none⟩ = some (.slice none 0 0) ∧ w'.cell? ⟨g, k * 5 + 3, none⟩ = some (.int .i64 0) ∧ w'.cell? ⟨g, k * 5 + 4, none⟩ = some (.int .i64 0)) := Lib.hid (fun w' hb => by
                obtain ⟨h1, h2, h3, h4, h5⟩ := HCC.out k hkx
                have hw := HWT.out w' hb
                exact ⟨(hw.cell (p := ⟨g, _, none⟩) HG.out).trans h1, (hw.cell (p := ⟨g, _, none⟩) HG.out).trans h2, (hw.cell (p := ⟨g, _, none⟩) HG.out).trans h3, (hw.cell (p := ⟨g, _, none⟩) HG.out).trans h4, (hw.cell (p := ⟨g, _, none⟩) HG.out).trans h5⟩)
              have HCP : Hid (0 < k → ∀ w', Below wr.heap.size wr w' → w'.cell? ⟨g, (k - 1) * 5, none⟩ = some (.string ⟨(xsOf ls)[k - 1].2.toArray⟩)) := Lib.hid (fun _ w' hb => ((HWT.out w' hb).cell (p := ⟨g, _, none⟩) HG.out).trans (HCC.out (k - 1) hkp).1)
              have HP : Hid (∀ w', Below wr.heap.size wr w' → w'.cell? ⟨w.heap.size + 1 + 1, 8, none⟩ = some (.slice (some ⟨g, 0, none⟩) ls.length cp)) := Lib.hid (fun w' hb => by
                rw [cell_of_row w' _ 8 _ _ _ (((HWT.out w' hb).block _ (by have := HB4.out; omega)).trans HR4.out)]; rfl)
              have HSM := lw_small (xsOf ls) n [] k (by omega)
              have HLE : Hid ((lwEnd (xsOf ls) n [] k) = VR.run (lw (xsOf ls) n []) (xsOf ls) k) := Lib.hid (by rw [lwEnd, if_neg HN.out])
              have HB9 : Hid (k ≤ 1000 ∧ (lwEnd (xsOf ls) n [] k).2.2 ≤ 3000) := Lib.hid (by rw [HLE.out]; have := HL.out; omega)
              have HT : Hid (lw (xsOf ls) n [] ((lwEnd (xsOf ls) n [] k).1, (lwEnd (xsOf ls) n [] k).2.1, (lwEnd (xsOf ls) n [] k).2.2) k (xsOf ls)[k] = (lwEnd (xsOf ls) n [] (k + 1))) := Lib.hid (by
                rw [HLE.out, lwEnd, if_neg HN.out, run_succ _ _ _ hkx])
              have HWK := Lib.hid (vw64i k (by have := HL.out; omega))
              generalize (lwEnd (xsOf ls) n [] k) = st at HB9 HT ⊢
              obtain ⟨a, b, m⟩ := st
              simp only at HB9 HT ⊢
              generalize (xsOf ls)[k] = x at HX HC HT
              generalize (xsOf ls)[k - 1] = xp at HXP HCP
              clear hlt hk hc hkp hkx hg HSM HLE HCC
              go_upto_if 73 with fail
              go_step
              go_step
              go_step
              go_step
              go_step
              go_step
              refine lawRoundE HX HXP HC HCP HP HEQ hkl HB9 HT _ _ _ _ _ _ _ _ _ _ _ _ _ _ _ _ _ _ _ _ _ _ _ _ _ _ _ _ _ _ _ _ _ _ _ _ _ _ _ _ _ _ _ _ _ _ _ _ _ _ _ _ _ _ _ _ _ _ _ _ _ _ _ _ _ _ _ _ _ _ _ _ _ _ _ _ _ _ _ _ _ _ _ _ _ _ _ _ _ _ _ _ _ _ _ _ _ _ _ _ _ _ _ _ _ _ _ _ _ _ _ _ _ _ _ _ _ _ _ _ _ _ _ _ _ _ _ _ _ _ _ _ _ _ _ _ _ _ _ _ _ _ _ _ _ _ _ _ _ _ _ _ _ _ _ _ _ _ _ ?_
              intro d14 d76 d77 d78 d79 d80 d81 d82 d83 d84 d85 d86 d87 d88 d89 d90 d91 d92 d93 d94 d95 d96 d97 d98 d99 d100 d101 d102 d103 d104 d105 d106 d107 d108 d109 d110 d111 d112 d113 d114 d115 d116 d117 d118 d119 d120 d121 d122 d123 W5 hb5
              have HB6 := Lib.hid (HB5.out.trans (hb5.mono HB5.out.size))
              clear hb5 HC HCP HP HX HXP HT HB9 HWT
              go_wp2_with fail
              go_roundw
              case rel => exact ⟨k + 1, HLT.out, by simp [HWK.out], rfl, rfl, rfl, HB6⟩
              case measure => first | exact vmea2 _ _ HLT.out | exact vmea _ _ HLT.out (by have := HL.out; omega)
            · obtain rfl : k = ls.length := by omega
              clear hlt hk
              have HE2 : Hid (((lwEnd (xsOf ls) n [] ls.length).2.2 = 0 ∧ o = (0, 0, 7)) ∨ ((lwEnd (xsOf ls) n [] ls.length).2.2 = 1 ∧ o = ((lwEnd (xsOf ls) n [] ls.length).1, (lwEnd (xsOf ls) n [] ls.length).2.1, 0)) ∨ (1 < (lwEnd (xsOf ls) n [] ls.length).2.2 ∧ o = (0, 0, 17))) := Lib.hid (by have h := HEND.out; rw [HXL.out] at h; exact h)
              clear HEND
              generalize lwEnd (xsOf ls) n [] ls.length = t at HE2 ⊢
              obtain ⟨ta, tb, tm⟩ := t
              simp only at HE2 ⊢
              go_upto_region 23 with fail
              have HPV : Hid (wr.heap[w.heap.size + 1 + 1]? = some (pgO (.slice Ap ls.length cp))) := Lib.hid ((HB5.out.block _ (by have := HB4.out; omega)).trans HR4.out)
              have hc0 : wr.cell? ⟨w.heap.size + 1 + 1, 0, none⟩ = some (.string ⟨#[]⟩) := by rw [cell_of_row wr _ 0 _ _ _ HPV.out]; rfl
              have hc1 : wr.cell? ⟨w.heap.size + 1 + 1, 1, none⟩ = some (.slice none 0 0) := by rw [cell_of_row wr _ 1 _ _ _ HPV.out]; rfl
              have hc2 : wr.cell? ⟨w.heap.size + 1 + 1, 2, none⟩ = some (.slice none 0 0) := by rw [cell_of_row wr _ 2 _ _ _ HPV.out]; rfl
              have hc3 : wr.cell? ⟨w.heap.size + 1 + 1, 3, none⟩ = some (.slice none 0 0) := by rw [cell_of_row wr _ 3 _ _ _ HPV.out]; rfl
              have hc4 : wr.cell? ⟨w.heap.size + 1 + 1, 4, none⟩ = some (.slice none 0 0) := by rw [cell_of_row wr _ 4 _ _ _ HPV.out]; rfl
              have hc5 : wr.cell? ⟨w.heap.size + 1 + 1, 5, none⟩ = some (.slice none 0 0) := by rw [cell_of_row wr _ 5 _ _ _ HPV.out]; rfl
              have hc6 : wr.cell? ⟨w.heap.size + 1 + 1, 6, none⟩ = some (.slice none 0 0) := by rw [cell_of_row wr _ 6 _ _ _ HPV.out]; rfl
              have hc7 : wr.cell? ⟨w.heap.size + 1 + 1, 7, none⟩ = some (.slice none 0 0) := by rw [cell_of_row wr _ 7 _ _ _ HPV.out]; rfl
              have hc8 : wr.cell? ⟨w.heap.size + 1 + 1, 8, none⟩ = some (.slice Ap ls.length cp) := by rw [cell_of_row wr _ 8 _ _ _ HPV.out]; rfl
              clear HPV
              go_wp2_with fail
              refine (HRG.out wr HB5.out).mono ?_
              rintro e W6 ⟨rfl, hb6⟩
              have HB6 := Lib.hid (HW4.out.trans ((HB5.out.trans (hb6.mono HB5.out.size)).mono HW4.out.size))
              clear hb6 HRG
              rcases HE2.out with ⟨h1, h2⟩ | ⟨h1, h2⟩ | ⟨h1, h2⟩
              · subst h1
                subst h2
                go_wp2_with fail
                refine (HLV.out W6 HB6.out).mono ?_
                rintro e W7 ⟨rfl, hb7⟩
                have HB7 := Lib.hid (HB6.out.trans (hb7.mono HB6.out.size))
                go_wp2_with fail
                go_ret
                exact ⟨rfl, HB7.out⟩
              · subst h1
                subst h2
                go_wp2_with fail
                refine (HLV.out W6 HB6.out).mono ?_
                rintro e W7 ⟨rfl, hb7⟩
                have HB7 := Lib.hid (HB6.out.trans (hb7.mono HB6.out.size))
                go_wp2_with fail
                go_ret
                exact ⟨rfl, HB7.out⟩
              · subst h2
                go_wp2_with fail
                refine (HLV.out W6 HB6.out).mono ?_
                rintro e W7 ⟨rfl, hb7⟩
                have HB7 := Lib.hid (HB6.out.trans (hb7.mono HB6.out.size))
                go_wp2_with fail
                go_ret
                exact ⟨rfl, HB7.out⟩
        · obtain ⟨r1, r2⟩ := vnil hs
          have HSC := Lib.hid hs
          have HEQS := Lib.hid (fun x : VB => veq x sc)
          clear hs
          generalize hsb : (⟨sc.toArray⟩ : ByteArray) = sb at HEQS r1 r2 ⊢
          have HEND := Lib.hid (law_end (xsOf ls) n sc)
          have HRG : Hid (∀ W, Below W4.heap.size W4 W → Calls Tryz.prog 5 #[pgV Ap ls.length cp, .string nb, .string sb] W fun e w' => e = .returned (.tuple #[.int .i64 (rgOut (VR.run (rg (xsOf ls) n sc) (xsOf ls) (xsOf ls).length)).1, .int .i64 (rgOut (VR.run (rg (xsOf ls) n sc) (xsOf ls) (xsOf ls).length)).2.1, .int .i64 (rgOut (VR.run (rg (xsOf ls) n sc) (xsOf ls) (xsOf ls).length)).2.2]) ∧ Below W.heap.size W w') := Lib.hid (fun W hb => by
            have h := range_any (xsOf ls) Ap cp n sc W (HPG.out.below hb) (by rw [HXL.out]; have := HL.out; omega)
            rw [show pgV Ap (xsOf ls).length cp = pgV Ap ls.length cp by rw [HXL.out]] at h
            rw [hnb] at h
            rw [hsb] at h
            exact h)
          generalize rgOut (VR.run (rg (xsOf ls) n sc) (xsOf ls) (xsOf ls).length) = o at HEND HRG
          go_wp2_with fail
          go_loopw [10, 11, 12, 13] (fun m a b i W => ∃ k : Nat, k ≤ ls.length ∧ i = .int .i64 k ∧ m = .int .i64 (lwEnd (xsOf ls) n sc k).2.2 ∧ a = .int .i64 (lwEnd (xsOf ls) n sc k).1 ∧ b = .int .i64 (lwEnd (xsOf ls) n sc k).2.1 ∧ Hid (Below W4.heap.size W4 W)) (fun _ _ _ i _ => ls.length - (intOf i).toNat)
          case atStart => exact ⟨0, Nat.zero_le _, rfl, by rw [lwEnd, if_neg HN.out]; rfl, by rw [lwEnd, if_neg HN.out]; rfl, by rw [lwEnd, if_neg HN.out]; rfl, Lib.hid (Below.refl _ _)⟩
          case round =>
            obtain ⟨k, hk, rfl, rfl, rfl, rfl, HB5⟩ := hrel
            by_cases hlt : k < ls.length
            · have hkl : (k : Int) < (ls.length : Nat) := by omega
              have HLT := Lib.hid hlt
              have hkx : k < (xsOf ls).length := by rw [HXL.out]; exact hlt
              have hkp : k - 1 < (xsOf ls).length := by omega
              obtain ⟨g, rfl, hg, hc⟩ := HPG.out (by omega)
              have HG := Lib.hid hg
              have HCC := Lib.hid hc
              have HX := Lib.hid (List.getElem?_eq_getElem hkx)
              have HXP : Hid (0 < k → (xsOf ls)[k - 1]? = some (xsOf ls)[k - 1]) := Lib.hid (fun _ => List.getElem?_eq_getElem hkp)
              have HWT : Hid (∀ w', Below wr.heap.size wr w' → Below W4.heap.size W4 w') := Lib.hid (fun w' hb => HB5.out.trans (hb.mono HB5.out.size))
              have HC : Hid (∀ w', Below wr.heap.size wr w' → w'.cell? ⟨g, k * 5, none⟩ = some (.string ⟨(xsOf ls)[k].2.toArray⟩) ∧ w'.cell? ⟨g, k * 5 + 1, none⟩ = some (.string ⟨(xsOf ls)[k].1.toArray⟩) ∧ w'.cell? ⟨g, k * 5 + 2, none⟩ = some (.slice none 0 0) ∧ w'.cell? ⟨g, k * 5 + 3, none⟩ = some (.int .i64 0) ∧ w'.cell? ⟨g, k * 5 + 4, none⟩ = some (.int .i64 0)) := Lib.hid (fun w' hb => by
                obtain ⟨h1, h2, h3, h4, h5⟩ := HCC.out k hkx
                have hw := HWT.out w' hb
                exact ⟨(hw.cell (p := ⟨g, _, none⟩) HG.out).trans h1, (hw.cell (p := ⟨g, _, none⟩) HG.out).trans h2, (hw.cell (p := ⟨g, _, none⟩) HG.out).trans h3, (hw.cell (p := ⟨g, _, none⟩) HG.out).trans h4, (hw.cell (p := ⟨g, _, none⟩) HG.out).trans h5⟩)
              have HCP : Hid (0 < k → ∀ w', Below wr.heap.size wr w' → w'.cell? ⟨g, (k - 1) * 5, none⟩ = some (.string ⟨(xsOf ls)[k - 1].2.toArray⟩)) := Lib.hid (fun _ w' hb => ((HWT.out w' hb).cell (p := ⟨g, _, none⟩) HG.out).trans (HCC.out (k - 1) hkp).1)
              have HP : Hid (∀ w', Below wr.heap.size wr w' → w'.cell? ⟨w.heap.size + 1 + 1, 8, none⟩ = some (.slice (some ⟨g, 0, none⟩) ls.length cp)) := Lib.hid (fun w' hb => by
                rw [cell_of_row w' _ 8 _ _ _ (((HWT.out w' hb).block _ (by have := HB4.out; omega)).trans HR4.out)]; rfl)
              have HSM := lw_small (xsOf ls) n sc k (by omega)
              have HLE : Hid ((lwEnd (xsOf ls) n sc k) = VR.run (lw (xsOf ls) n sc) (xsOf ls) k) := Lib.hid (by rw [lwEnd, if_neg HN.out])
              have HB9 : Hid (k ≤ 1000 ∧ (lwEnd (xsOf ls) n sc k).2.2 ≤ 3000) := Lib.hid (by rw [HLE.out]; have := HL.out; omega)
              have HT : Hid (lw (xsOf ls) n sc ((lwEnd (xsOf ls) n sc k).1, (lwEnd (xsOf ls) n sc k).2.1, (lwEnd (xsOf ls) n sc k).2.2) k (xsOf ls)[k] = (lwEnd (xsOf ls) n sc (k + 1))) := Lib.hid (by
                rw [HLE.out, lwEnd, if_neg HN.out, run_succ _ _ _ hkx])
              have HWK := Lib.hid (vw64i k (by have := HL.out; omega))
              generalize (lwEnd (xsOf ls) n sc k) = st at HB9 HT ⊢
              obtain ⟨a, b, m⟩ := st
              simp only at HB9 HT ⊢
              generalize (xsOf ls)[k] = x at HX HC HT
              generalize (xsOf ls)[k - 1] = xp at HXP HCP
              clear hlt hk hc hkp hkx hg HSM HLE HCC
              go_upto_if 73 with fail
              go_step
              go_step
              go_step
              go_step
              go_step
              go_step
              refine lawRoundS HX HXP HC HCP HP HEQ HEQS HSC r1 r2 hkl HB9 HT _ _ _ _ _ _ _ _ _ _ _ _ _ _ _ _ _ _ _ _ _ _ _ _ _ _ _ _ _ _ _ _ _ _ _ _ _ _ _ _ _ _ _ _ _ _ _ _ _ _ _ _ _ _ _ _ _ _ _ _ _ _ _ _ _ _ _ _ _ _ _ _ _ _ _ _ _ _ _ _ _ _ _ _ _ _ _ _ _ _ _ _ _ _ _ _ _ _ _ _ _ _ _ _ _ _ _ _ _ _ _ _ _ _ _ _ _ _ _ _ _ _ _ _ _ _ _ _ _ _ _ _ _ _ _ _ _ _ _ _ _ _ _ _ _ _ _ _ _ _ _ _ _ _ _ _ _ _ _ ?_
              intro d14 d76 d77 d78 d79 d80 d81 d82 d83 d84 d85 d86 d87 d88 d89 d90 d91 d92 d93 d94 d95 d96 d97 d98 d99 d100 d101 d102 d103 d104 d105 d106 d107 d108 d109 d110 d111 d112 d113 d114 d115 d116 d117 d118 d119 d120 d121 d122 d123 W5 hb5
              have HB6 := Lib.hid (HB5.out.trans (hb5.mono HB5.out.size))
              clear hb5 HC HCP HP HX HXP HT HB9 HWT
              go_wp2_with fail
              go_roundw
              case rel => exact ⟨k + 1, HLT.out, by simp [HWK.out], rfl, rfl, rfl, HB6⟩
              case measure => first | exact vmea2 _ _ HLT.out | exact vmea _ _ HLT.out (by have := HL.out; omega)
            · obtain rfl : k = ls.length := by omega
              clear hlt hk
              have HE2 : Hid (((lwEnd (xsOf ls) n sc ls.length).2.2 = 0 ∧ o = (0, 0, 7)) ∨ ((lwEnd (xsOf ls) n sc ls.length).2.2 = 1 ∧ o = ((lwEnd (xsOf ls) n sc ls.length).1, (lwEnd (xsOf ls) n sc ls.length).2.1, 0)) ∨ (1 < (lwEnd (xsOf ls) n sc ls.length).2.2 ∧ o = (0, 0, 17))) := Lib.hid (by have h := HEND.out; rw [HXL.out] at h; exact h)
              clear HEND
              generalize lwEnd (xsOf ls) n sc ls.length = t at HE2 ⊢
              obtain ⟨ta, tb, tm⟩ := t
              simp only at HE2 ⊢
              go_upto_region 23 with fail
              have HPV : Hid (wr.heap[w.heap.size + 1 + 1]? = some (pgO (.slice Ap ls.length cp))) := Lib.hid ((HB5.out.block _ (by have := HB4.out; omega)).trans HR4.out)
              have hc0 : wr.cell? ⟨w.heap.size + 1 + 1, 0, none⟩ = some (.string ⟨#[]⟩) := by rw [cell_of_row wr _ 0 _ _ _ HPV.out]; rfl
              have hc1 : wr.cell? ⟨w.heap.size + 1 + 1, 1, none⟩ = some (.slice none 0 0) := by rw [cell_of_row wr _ 1 _ _ _ HPV.out]; rfl
              have hc2 : wr.cell? ⟨w.heap.size + 1 + 1, 2, none⟩ = some (.slice none 0 0) := by rw [cell_of_row wr _ 2 _ _ _ HPV.out]; rfl
              have hc3 : wr.cell? ⟨w.heap.size + 1 + 1, 3, none⟩ = some (.slice none 0 0) := by rw [cell_of_row wr _ 3 _ _ _ HPV.out]; rfl
              have hc4 : wr.cell? ⟨w.heap.size + 1 + 1, 4, none⟩ = some (.slice none 0 0) := by rw [cell_of_row wr _ 4 _ _ _ HPV.out]; rfl
              have hc5 : wr.cell? ⟨w.heap.size + 1 + 1, 5, none⟩ = some (.slice none 0 0) := by rw [cell_of_row wr _ 5 _ _ _ HPV.out]; rfl
              have hc6 : wr.cell? ⟨w.heap.size + 1 + 1, 6, none⟩ = some (.slice none 0 0) := by rw [cell_of_row wr _ 6 _ _ _ HPV.out]; rfl
              have hc7 : wr.cell? ⟨w.heap.size + 1 + 1, 7, none⟩ = some (.slice none 0 0) := by rw [cell_of_row wr _ 7 _ _ _ HPV.out]; rfl
              have hc8 : wr.cell? ⟨w.heap.size + 1 + 1, 8, none⟩ = some (.slice Ap ls.length cp) := by rw [cell_of_row wr _ 8 _ _ _ HPV.out]; rfl
              clear HPV
              go_wp2_with fail
              refine (HRG.out wr HB5.out).mono ?_
              rintro e W6 ⟨rfl, hb6⟩
              have HB6 := Lib.hid (HW4.out.trans ((HB5.out.trans (hb6.mono HB5.out.size)).mono HW4.out.size))
              clear hb6 HRG
              rcases HE2.out with ⟨h1, h2⟩ | ⟨h1, h2⟩ | ⟨h1, h2⟩
              · subst h1
                subst h2
                go_wp2_with fail
                refine (HLV.out W6 HB6.out).mono ?_
                rintro e W7 ⟨rfl, hb7⟩
                have HB7 := Lib.hid (HB6.out.trans (hb7.mono HB6.out.size))
                go_wp2_with fail
                go_ret
                exact ⟨rfl, HB7.out⟩
              · subst h1
                subst h2
                go_wp2_with fail
                refine (HLV.out W6 HB6.out).mono ?_
                rintro e W7 ⟨rfl, hb7⟩
                have HB7 := Lib.hid (HB6.out.trans (hb7.mono HB6.out.size))
                go_wp2_with fail
                go_ret
                exact ⟨rfl, HB7.out⟩
              · subst h2
                go_wp2_with fail
                refine (HLV.out W6 HB6.out).mono ?_
                rintro e W7 ⟨rfl, hb7⟩
                have HB7 := Lib.hid (HB6.out.trans (hb7.mono HB6.out.size))
                go_wp2_with fail
                go_ret
                exact ⟨rfl, HB7.out⟩
end Go.Proofs.YtpcalgoaccmofaaGreatDoor
