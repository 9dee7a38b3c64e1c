/- The law WordsOf returns true for every text and every number. -/
import Derived.Test.YtphofgokcfdobaaDoorWLives
import Derived.Test.YtphofgokcfdobaaDoorWOfP
namespace Go.Proofs.YtphofgokcfdobaaDoor
open Go.RowKit Go.Shelf
set_option maxRecDepth 100000

theorem fields_lit (l S : ByteArray) (L : List (List UInt8)) (w : World) (h : l = S) (hs : S.size < 5000) (hL : Lib.fieldsD S.data.toList = L) (hE : Env w) :
    Calls Tryd.prog 10 #[.string l] w fun e w' => ∃ A, e = .returned (.slice (some ⟨A, 0, none⟩) L.length L.length) ∧ w.heap.size ≤ A ∧
      (∀ k, (h : k < L.length) → w'.cell? ⟨A, k, none⟩ = some (.string ⟨(L[k]).toArray⟩)) ∧ Below w.heap.size w w' := by
  subst h; subst hL
  exact fields_any l w (by omega) hE
theorem in_lit (s l S : ByteArray) (L : List (List UInt8)) (w : World) (h : l = S) (hs : S.size < 5000) (hL : Lib.fieldsD S.data.toList = L) (hn : L.length ≤ 1000000) (hE : Env w) :
    Calls Tryd.prog 11 #[.string s, .string l] w fun e w' => e = .returned (.int .i64 (WP.inL L s.data.toList)) ∧ Below w.heap.size w w' := by
  subst h; subst hL
  exact in_any s l w (by omega) hn hE

/-- The two words that are looked at. -/
def two (s : ByteArray) (y : List UInt8) : Nat → ByteArray | 0 => s | _ => ⟨y.toArray⟩

theorem two_size (s : ByteArray) (y : List UInt8) (i : Nat) (hs : s.size ≤ 100) (hy : y.length ≤ 30) : (two s y i).size ≤ 100 := by
  unfold two; split
  · exact hs
  · show y.toArray.size ≤ 100
    simp; omega

set_option maxHeartbeats 16000000 in
theorem wordsOf_small (s : ByteArray) (n : Nat) (w : World) (hE : Env w) (hs : (s.size : Int) ≤ 60) (hn : n < 65536) :
    Calls Tryd.prog 3 #[.string s, .int .u16 n] w fun e w' => e = .returned (.bool true) ∧ Below w.heap.size w w' := by
  have HE := Lib.hid hE
  clear hE
  have hl1 := WP.allL_len.1
  have hl2 := WP.allL_len.2
  go_enter Tryd.func3, Tryd.ntmps3
  go_wp2_with fail
  refine (fields_lit _ WP.allS WP.allL _ (by kernel_rfl) WP.allS_size WP.allS_flds HE.out).mono ?_
  rintro e w1 ⟨A, rfl, hA, hc, hb⟩
  have hmod : n % WP.allL.length < WP.allL.length := Nat.mod_lt _ (by omega)
  have hcell := hc _ hmod
  have hyl := WP.allL_word _ hmod
  generalize hy : WP.allL[n % WP.allL.length] = y at hcell hyl
  have HC := Lib.hid hc
  have HB1 := Lib.hid hb
  clear hc hy hb
  go_wp2_with fail
  go_loopw [7] (fun s7 wr => ∃ i : Nat, i ≤ 2 ∧ s7 = .int .i64 i ∧ (∀ j, j < 2 → wr.cell? ⟨w1.heap.size, j, none⟩ = some (.string (two s y j))) ∧ w1.heap.size < wr.heap.size ∧ Below w.heap.size w wr)
    (fun s7 _ => 2 - (intOf s7).toNat)
  case atStart =>
    refine ⟨0, by omega, rfl, ?_, by simp, HB1.out.alloc HB1.out.size _⟩
    intro j hj
    match j, hj with
    | 0, _ => exact World.cell?_alloc_new _ _ _ _
    | 1, _ => exact World.cell?_alloc_new _ _ _ _
  case round =>
    obtain ⟨i, hi, rfl, htwo, hsz, hbel⟩ := hrel
    by_cases hlt : i < 2
    · have hci := htwo i hlt
      have hxs := two_size s y i (by omega) hyl
      generalize hx : two s y i = x at hci hxs
      have HT := Lib.hid htwo
      have HBW := Lib.hid hbel
      have hcls := WP.cls_in x.data.toList
      have hfi := WP.figIs_in x.data.toList
      have hfo := WP.figByte_out x.data.toList
      have hfb := WP.figByte_in x.data.toList
      have hcl := WP.inL_lt WP.constsL x.data.toList
      obtain ⟨ik, hik⟩ : ∃ ik, WP.inL WP.keysL x.data.toList = ik := ⟨_, rfl⟩
      obtain ⟨iv, hiv⟩ : ∃ iv, WP.inL WP.verbsL x.data.toList = iv := ⟨_, rfl⟩
      obtain ⟨ic, hic⟩ : ∃ ic, WP.inL WP.constsL x.data.toList = ic := ⟨_, rfl⟩
      rw [hik, hiv, hic] at hcls
      rw [hic] at hfi hfo hfb hcl
      have HIK := Lib.hid hik
      have HIV := Lib.hid hiv
      have HIC := Lib.hid hic
      have hci' := Lib.hid (fun W (hb : Below wr.heap.size wr W) => (hb.cell (p := ⟨w1.heap.size, i, none⟩) hsz).trans hci)
      clear hx htwo hbel hik hiv hic
      have hclen : WP.constsL.length = 11 := by decide +kernel
      rw [hclen] at hcl
      clear hclen
      by_cases hc : 0 ≤ ic
      · by_cases hv : 0 ≤ iv
        · by_cases hk : 0 ≤ ik
          · have hcv : WP.cls x.data.toList = 3 := by rw [hcls]; simp [hc]
            obtain ⟨m, rfl⟩ := Int.eq_ofNat_of_zero_le hc
            have hm : m < 11 := by omega
            have hm' : m < (⟨#[48, 48, 48, 32, 32, 255, 255, 0, 0, 34, 34]⟩ : ByteArray).size := hm
            have hby : figByte x.data.toList = (((⟨#[48, 48, 48, 32, 32, 255, 255, 0, 0, 34, 34]⟩ : ByteArray)[m]'hm').toNat : Int) := by rw [hfb hc]; exact congrArg (fun b : UInt8 => (b.toNat : Int)) (tbl_get WP.byteL m hm).symm
            have his : figIs x.data.toList = true := by rw [hfi]; simp
            have HCV := Lib.hid hcv
            have HBY := Lib.hid hby
            have HIS := Lib.hid his
            clear hcls hfi hfo hfb hcv hby his
            have HR0 := Lib.hid (Below.refl wr.heap.size wr)
            go_wp2_with fail
            refine (in_lit x _ WP.keysS WP.keysL _ (by kernel_rfl) (WP.LstS_size 0) WP.keysS_flds (by decide +kernel) (HE.out.below (HBW.out.trans (HR0.out.mono HBW.out.size)))).mono ?_
            rintro e W1 ⟨rfl, hb⟩
            rw [HIK.out]
            have HR1 := Lib.hid (HR0.out.trans (hb.mono HR0.out.size))
            have hci := hci'.out W1 HR1.out
            clear hb
            go_wp2_with fail
            refine (in_lit x _ WP.verbsS WP.verbsL _ (by kernel_rfl) (WP.LstS_size 1) WP.verbsS_flds (by decide +kernel) (HE.out.below (HBW.out.trans (HR1.out.mono HBW.out.size)))).mono ?_
            rintro e W2 ⟨rfl, hb⟩
            rw [HIV.out]
            have HR2 := Lib.hid (HR1.out.trans (hb.mono HR1.out.size))
            have hci := hci'.out W2 HR2.out
            clear hb
            go_wp2_with fail
            refine (in_lit x _ WP.constsS WP.constsL _ (by kernel_rfl) (WP.LstS_size 2) WP.constsS_flds (by decide +kernel) (HE.out.below (HBW.out.trans (HR2.out.mono HBW.out.size)))).mono ?_
            rintro e W3 ⟨rfl, hb⟩
            rw [HIC.out]
            have HR3 := Lib.hid (HR2.out.trans (hb.mono HR2.out.size))
            have hci := hci'.out W3 HR3.out
            clear hb
            go_wp2_with fail
            refine (byte_c x _ true _ HBY.out HIS.out).mono ?_
            rintro e w0 ⟨rfl, rfl⟩
            go_wp2_with fail
            refine (of_c x 3 _ HCV.out (by unfold maxLen; omega) (HE.out.below (HBW.out.trans (HR3.out.mono HBW.out.size)))).mono ?_
            rintro e W4 ⟨rfl, hb⟩
            skip
            have HR4 := Lib.hid (HR3.out.trans (hb.mono HR3.out.size))
            have hci := hci'.out W4 HR4.out
            clear hb
            go_wp2_with fail
            go_roundw
            case rel => exact ⟨i + 1, by omega, by go_num, fun j hj => (HR4.out.cell (by exact hsz)).trans (HT.out j hj), Nat.lt_of_lt_of_le hsz HR4.out.size, HBW.out.trans (HR4.out.mono HBW.out.size)⟩
            case measure => simp [intOf]; omega
          · have hcv : WP.cls x.data.toList = 3 := by rw [hcls]; simp [hc]
            obtain ⟨m, rfl⟩ := Int.eq_ofNat_of_zero_le hc
            have hm : m < 11 := by omega
            have hm' : m < (⟨#[48, 48, 48, 32, 32, 255, 255, 0, 0, 34, 34]⟩ : ByteArray).size := hm
            have hby : figByte x.data.toList = (((⟨#[48, 48, 48, 32, 32, 255, 255, 0, 0, 34, 34]⟩ : ByteArray)[m]'hm').toNat : Int) := by rw [hfb hc]; exact congrArg (fun b : UInt8 => (b.toNat : Int)) (tbl_get WP.byteL m hm).symm
            have his : figIs x.data.toList = true := by rw [hfi]; simp
            have HCV := Lib.hid hcv
            have HBY := Lib.hid hby
            have HIS := Lib.hid his
            clear hcls hfi hfo hfb hcv hby his
            have hk0 : ik < 0 := by omega
            clear hk
            have HR0 := Lib.hid (Below.refl wr.heap.size wr)
            go_wp2_with fail
            refine (in_lit x _ WP.keysS WP.keysL _ (by kernel_rfl) (WP.LstS_size 0) WP.keysS_flds (by decide +kernel) (HE.out.below (HBW.out.trans (HR0.out.mono HBW.out.size)))).mono ?_
            rintro e W1 ⟨rfl, hb⟩
            rw [HIK.out]
            have HR1 := Lib.hid (HR0.out.trans (hb.mono HR0.out.size))
            have hci := hci'.out W1 HR1.out
            clear hb
            go_wp2_with fail
            refine (in_lit x _ WP.verbsS WP.verbsL _ (by kernel_rfl) (WP.LstS_size 1) WP.verbsS_flds (by decide +kernel) (HE.out.below (HBW.out.trans (HR1.out.mono HBW.out.size)))).mono ?_
            rintro e W2 ⟨rfl, hb⟩
            rw [HIV.out]
            have HR2 := Lib.hid (HR1.out.trans (hb.mono HR1.out.size))
            have hci := hci'.out W2 HR2.out
            clear hb
            go_wp2_with fail
            refine (in_lit x _ WP.constsS WP.constsL _ (by kernel_rfl) (WP.LstS_size 2) WP.constsS_flds (by decide +kernel) (HE.out.below (HBW.out.trans (HR2.out.mono HBW.out.size)))).mono ?_
            rintro e W3 ⟨rfl, hb⟩
            rw [HIC.out]
            have HR3 := Lib.hid (HR2.out.trans (hb.mono HR2.out.size))
            have hci := hci'.out W3 HR3.out
            clear hb
            go_wp2_with fail
            refine (byte_c x _ true _ HBY.out HIS.out).mono ?_
            rintro e w0 ⟨rfl, rfl⟩
            go_wp2_with fail
            refine (of_c x 3 _ HCV.out (by unfold maxLen; omega) (HE.out.below (HBW.out.trans (HR3.out.mono HBW.out.size)))).mono ?_
            rintro e W4 ⟨rfl, hb⟩
            skip
            have HR4 := Lib.hid (HR3.out.trans (hb.mono HR3.out.size))
            have hci := hci'.out W4 HR4.out
            clear hb
            go_wp2_with fail
            go_roundw
            case rel => exact ⟨i + 1, by omega, by go_num, fun j hj => (HR4.out.cell (by exact hsz)).trans (HT.out j hj), Nat.lt_of_lt_of_le hsz HR4.out.size, HBW.out.trans (HR4.out.mono HBW.out.size)⟩
            case measure => simp [intOf]; omega
        · by_cases hk : 0 ≤ ik
          · have hcv : WP.cls x.data.toList = 3 := by rw [hcls]; simp [hc]
            obtain ⟨m, rfl⟩ := Int.eq_ofNat_of_zero_le hc
            have hm : m < 11 := by omega
            have hm' : m < (⟨#[48, 48, 48, 32, 32, 255, 255, 0, 0, 34, 34]⟩ : ByteArray).size := hm
            have hby : figByte x.data.toList = (((⟨#[48, 48, 48, 32, 32, 255, 255, 0, 0, 34, 34]⟩ : ByteArray)[m]'hm').toNat : Int) := by rw [hfb hc]; exact congrArg (fun b : UInt8 => (b.toNat : Int)) (tbl_get WP.byteL m hm).symm
            have his : figIs x.data.toList = true := by rw [hfi]; simp
            have HCV := Lib.hid hcv
            have HBY := Lib.hid hby
            have HIS := Lib.hid his
            clear hcls hfi hfo hfb hcv hby his
            have hv0 : iv < 0 := by omega
            clear hv
            have HR0 := Lib.hid (Below.refl wr.heap.size wr)
            go_wp2_with fail
            refine (in_lit x _ WP.keysS WP.keysL _ (by kernel_rfl) (WP.LstS_size 0) WP.keysS_flds (by decide +kernel) (HE.out.below (HBW.out.trans (HR0.out.mono HBW.out.size)))).mono ?_
            rintro e W1 ⟨rfl, hb⟩
            rw [HIK.out]
            have HR1 := Lib.hid (HR0.out.trans (hb.mono HR0.out.size))
            have hci := hci'.out W1 HR1.out
            clear hb
            go_wp2_with fail
            refine (in_lit x _ WP.verbsS WP.verbsL _ (by kernel_rfl) (WP.LstS_size 1) WP.verbsS_flds (by decide +kernel) (HE.out.below (HBW.out.trans (HR1.out.mono HBW.out.size)))).mono ?_
            rintro e W2 ⟨rfl, hb⟩
            rw [HIV.out]
            have HR2 := Lib.hid (HR1.out.trans (hb.mono HR1.out.size))
            have hci := hci'.out W2 HR2.out
            clear hb
            go_wp2_with fail
            refine (in_lit x _ WP.constsS WP.constsL _ (by kernel_rfl) (WP.LstS_size 2) WP.constsS_flds (by decide +kernel) (HE.out.below (HBW.out.trans (HR2.out.mono HBW.out.size)))).mono ?_
            rintro e W3 ⟨rfl, hb⟩
            rw [HIC.out]
            have HR3 := Lib.hid (HR2.out.trans (hb.mono HR2.out.size))
            have hci := hci'.out W3 HR3.out
            clear hb
            go_wp2_with fail
            refine (byte_c x _ true _ HBY.out HIS.out).mono ?_
            rintro e w0 ⟨rfl, rfl⟩
            go_wp2_with fail
            refine (of_c x 3 _ HCV.out (by unfold maxLen; omega) (HE.out.below (HBW.out.trans (HR3.out.mono HBW.out.size)))).mono ?_
            rintro e W4 ⟨rfl, hb⟩
            skip
            have HR4 := Lib.hid (HR3.out.trans (hb.mono HR3.out.size))
            have hci := hci'.out W4 HR4.out
            clear hb
            go_wp2_with fail
            go_roundw
            case rel => exact ⟨i + 1, by omega, by go_num, fun j hj => (HR4.out.cell (by exact hsz)).trans (HT.out j hj), Nat.lt_of_lt_of_le hsz HR4.out.size, HBW.out.trans (HR4.out.mono HBW.out.size)⟩
            case measure => simp [intOf]; omega
          · have hcv : WP.cls x.data.toList = 3 := by rw [hcls]; simp [hc]
            obtain ⟨m, rfl⟩ := Int.eq_ofNat_of_zero_le hc
            have hm : m < 11 := by omega
            have hm' : m < (⟨#[48, 48, 48, 32, 32, 255, 255, 0, 0, 34, 34]⟩ : ByteArray).size := hm
            have hby : figByte x.data.toList = (((⟨#[48, 48, 48, 32, 32, 255, 255, 0, 0, 34, 34]⟩ : ByteArray)[m]'hm').toNat : Int) := by rw [hfb hc]; exact congrArg (fun b : UInt8 => (b.toNat : Int)) (tbl_get WP.byteL m hm).symm
            have his : figIs x.data.toList = true := by rw [hfi]; simp
            have HCV := Lib.hid hcv
            have HBY := Lib.hid hby
            have HIS := Lib.hid his
            clear hcls hfi hfo hfb hcv hby his
            have hk0 : ik < 0 := by omega
            clear hk
            have hv0 : iv < 0 := by omega
            clear hv
            have HR0 := Lib.hid (Below.refl wr.heap.size wr)
            go_wp2_with fail
            refine (in_lit x _ WP.keysS WP.keysL _ (by kernel_rfl) (WP.LstS_size 0) WP.keysS_flds (by decide +kernel) (HE.out.below (HBW.out.trans (HR0.out.mono HBW.out.size)))).mono ?_
            rintro e W1 ⟨rfl, hb⟩
            rw [HIK.out]
            have HR1 := Lib.hid (HR0.out.trans (hb.mono HR0.out.size))
            have hci := hci'.out W1 HR1.out
            clear hb
            go_wp2_with fail
            refine (in_lit x _ WP.verbsS WP.verbsL _ (by kernel_rfl) (WP.LstS_size 1) WP.verbsS_flds (by decide +kernel) (HE.out.below (HBW.out.trans (HR1.out.mono HBW.out.size)))).mono ?_
            rintro e W2 ⟨rfl, hb⟩
            rw [HIV.out]
            have HR2 := Lib.hid (HR1.out.trans (hb.mono HR1.out.size))
            have hci := hci'.out W2 HR2.out
            clear hb
            go_wp2_with fail
            refine (in_lit x _ WP.constsS WP.constsL _ (by kernel_rfl) (WP.LstS_size 2) WP.constsS_flds (by decide +kernel) (HE.out.below (HBW.out.trans (HR2.out.mono HBW.out.size)))).mono ?_
            rintro e W3 ⟨rfl, hb⟩
            rw [HIC.out]
            have HR3 := Lib.hid (HR2.out.trans (hb.mono HR2.out.size))
            have hci := hci'.out W3 HR3.out
            clear hb
            go_wp2_with fail
            refine (byte_c x _ true _ HBY.out HIS.out).mono ?_
            rintro e w0 ⟨rfl, rfl⟩
            go_wp2_with fail
            refine (of_c x 3 _ HCV.out (by unfold maxLen; omega) (HE.out.below (HBW.out.trans (HR3.out.mono HBW.out.size)))).mono ?_
            rintro e W4 ⟨rfl, hb⟩
            skip
            have HR4 := Lib.hid (HR3.out.trans (hb.mono HR3.out.size))
            have hci := hci'.out W4 HR4.out
            clear hb
            go_wp2_with fail
            go_roundw
            case rel => exact ⟨i + 1, by omega, by go_num, fun j hj => (HR4.out.cell (by exact hsz)).trans (HT.out j hj), Nat.lt_of_lt_of_le hsz HR4.out.size, HBW.out.trans (HR4.out.mono HBW.out.size)⟩
            case measure => simp [intOf]; omega
      · by_cases hv : 0 ≤ iv
        · by_cases hk : 0 ≤ ik
          · have hcv : WP.cls x.data.toList = 2 := by rw [hcls]; simp [hc, hv]
            have hby : figByte x.data.toList = 0 := hfo hc
            have his : figIs x.data.toList = false := by rw [hfi]; simp [hc]
            have HCV := Lib.hid hcv
            have HBY := Lib.hid hby
            have HIS := Lib.hid his
            clear hcls hfi hfo hfb hcv hby his
            have hc0 : ic < 0 := by omega
            clear hc
            have HR0 := Lib.hid (Below.refl wr.heap.size wr)
            go_wp2_with fail
            refine (in_lit x _ WP.keysS WP.keysL _ (by kernel_rfl) (WP.LstS_size 0) WP.keysS_flds (by decide +kernel) (HE.out.below (HBW.out.trans (HR0.out.mono HBW.out.size)))).mono ?_
            rintro e W1 ⟨rfl, hb⟩
            rw [HIK.out]
            have HR1 := Lib.hid (HR0.out.trans (hb.mono HR0.out.size))
            have hci := hci'.out W1 HR1.out
            clear hb
            go_wp2_with fail
            refine (in_lit x _ WP.verbsS WP.verbsL _ (by kernel_rfl) (WP.LstS_size 1) WP.verbsS_flds (by decide +kernel) (HE.out.below (HBW.out.trans (HR1.out.mono HBW.out.size)))).mono ?_
            rintro e W2 ⟨rfl, hb⟩
            rw [HIV.out]
            have HR2 := Lib.hid (HR1.out.trans (hb.mono HR1.out.size))
            have hci := hci'.out W2 HR2.out
            clear hb
            go_wp2_with fail
            refine (in_lit x _ WP.constsS WP.constsL _ (by kernel_rfl) (WP.LstS_size 2) WP.constsS_flds (by decide +kernel) (HE.out.below (HBW.out.trans (HR2.out.mono HBW.out.size)))).mono ?_
            rintro e W3 ⟨rfl, hb⟩
            rw [HIC.out]
            have HR3 := Lib.hid (HR2.out.trans (hb.mono HR2.out.size))
            have hci := hci'.out W3 HR3.out
            clear hb
            go_wp2_with fail
            refine (byte_c x 0 false _ HBY.out HIS.out).mono ?_
            rintro e w0 ⟨rfl, rfl⟩
            go_wp2_with fail
            refine (of_c x 2 _ HCV.out (by unfold maxLen; omega) (HE.out.below (HBW.out.trans (HR3.out.mono HBW.out.size)))).mono ?_
            rintro e W4 ⟨rfl, hb⟩
            skip
            have HR4 := Lib.hid (HR3.out.trans (hb.mono HR3.out.size))
            have hci := hci'.out W4 HR4.out
            clear hb
            go_wp2_with fail
            go_roundw
            case rel => exact ⟨i + 1, by omega, by go_num, fun j hj => (HR4.out.cell (by exact hsz)).trans (HT.out j hj), Nat.lt_of_lt_of_le hsz HR4.out.size, HBW.out.trans (HR4.out.mono HBW.out.size)⟩
            case measure => simp [intOf]; omega
          · have hcv : WP.cls x.data.toList = 2 := by rw [hcls]; simp [hc, hv]
            have hby : figByte x.data.toList = 0 := hfo hc
            have his : figIs x.data.toList = false := by rw [hfi]; simp [hc]
            have HCV := Lib.hid hcv
            have HBY := Lib.hid hby
            have HIS := Lib.hid his
            clear hcls hfi hfo hfb hcv hby his
            have hc0 : ic < 0 := by omega
            clear hc
            have hk0 : ik < 0 := by omega
            clear hk
            have HR0 := Lib.hid (Below.refl wr.heap.size wr)
            go_wp2_with fail
            refine (in_lit x _ WP.keysS WP.keysL _ (by kernel_rfl) (WP.LstS_size 0) WP.keysS_flds (by decide +kernel) (HE.out.below (HBW.out.trans (HR0.out.mono HBW.out.size)))).mono ?_
            rintro e W1 ⟨rfl, hb⟩
            rw [HIK.out]
            have HR1 := Lib.hid (HR0.out.trans (hb.mono HR0.out.size))
            have hci := hci'.out W1 HR1.out
            clear hb
            go_wp2_with fail
            refine (in_lit x _ WP.verbsS WP.verbsL _ (by kernel_rfl) (WP.LstS_size 1) WP.verbsS_flds (by decide +kernel) (HE.out.below (HBW.out.trans (HR1.out.mono HBW.out.size)))).mono ?_
            rintro e W2 ⟨rfl, hb⟩
            rw [HIV.out]
            have HR2 := Lib.hid (HR1.out.trans (hb.mono HR1.out.size))
            have hci := hci'.out W2 HR2.out
            clear hb
            go_wp2_with fail
            refine (in_lit x _ WP.constsS WP.constsL _ (by kernel_rfl) (WP.LstS_size 2) WP.constsS_flds (by decide +kernel) (HE.out.below (HBW.out.trans (HR2.out.mono HBW.out.size)))).mono ?_
            rintro e W3 ⟨rfl, hb⟩
            rw [HIC.out]
            have HR3 := Lib.hid (HR2.out.trans (hb.mono HR2.out.size))
            have hci := hci'.out W3 HR3.out
            clear hb
            go_wp2_with fail
            refine (byte_c x 0 false _ HBY.out HIS.out).mono ?_
            rintro e w0 ⟨rfl, rfl⟩
            go_wp2_with fail
            refine (of_c x 2 _ HCV.out (by unfold maxLen; omega) (HE.out.below (HBW.out.trans (HR3.out.mono HBW.out.size)))).mono ?_
            rintro e W4 ⟨rfl, hb⟩
            skip
            have HR4 := Lib.hid (HR3.out.trans (hb.mono HR3.out.size))
            have hci := hci'.out W4 HR4.out
            clear hb
            go_wp2_with fail
            go_roundw
            case rel => exact ⟨i + 1, by omega, by go_num, fun j hj => (HR4.out.cell (by exact hsz)).trans (HT.out j hj), Nat.lt_of_lt_of_le hsz HR4.out.size, HBW.out.trans (HR4.out.mono HBW.out.size)⟩
            case measure => simp [intOf]; omega
        · by_cases hk : 0 ≤ ik
          · have hcv : WP.cls x.data.toList = 1 := by rw [hcls]; simp [hc, hv, hk]
            have hby : figByte x.data.toList = 0 := hfo hc
            have his : figIs x.data.toList = false := by rw [hfi]; simp [hc]
            have HCV := Lib.hid hcv
            have HBY := Lib.hid hby
            have HIS := Lib.hid his
            clear hcls hfi hfo hfb hcv hby his
            have hc0 : ic < 0 := by omega
            clear hc
            have hv0 : iv < 0 := by omega
            clear hv
            have HR0 := Lib.hid (Below.refl wr.heap.size wr)
            go_wp2_with fail
            refine (in_lit x _ WP.keysS WP.keysL _ (by kernel_rfl) (WP.LstS_size 0) WP.keysS_flds (by decide +kernel) (HE.out.below (HBW.out.trans (HR0.out.mono HBW.out.size)))).mono ?_
            rintro e W1 ⟨rfl, hb⟩
            rw [HIK.out]
            have HR1 := Lib.hid (HR0.out.trans (hb.mono HR0.out.size))
            have hci := hci'.out W1 HR1.out
            clear hb
            go_wp2_with fail
            refine (in_lit x _ WP.verbsS WP.verbsL _ (by kernel_rfl) (WP.LstS_size 1) WP.verbsS_flds (by decide +kernel) (HE.out.below (HBW.out.trans (HR1.out.mono HBW.out.size)))).mono ?_
            rintro e W2 ⟨rfl, hb⟩
            rw [HIV.out]
            have HR2 := Lib.hid (HR1.out.trans (hb.mono HR1.out.size))
            have hci := hci'.out W2 HR2.out
            clear hb
            go_wp2_with fail
            refine (in_lit x _ WP.constsS WP.constsL _ (by kernel_rfl) (WP.LstS_size 2) WP.constsS_flds (by decide +kernel) (HE.out.below (HBW.out.trans (HR2.out.mono HBW.out.size)))).mono ?_
            rintro e W3 ⟨rfl, hb⟩
            rw [HIC.out]
            have HR3 := Lib.hid (HR2.out.trans (hb.mono HR2.out.size))
            have hci := hci'.out W3 HR3.out
            clear hb
            go_wp2_with fail
            refine (byte_c x 0 false _ HBY.out HIS.out).mono ?_
            rintro e w0 ⟨rfl, rfl⟩
            go_wp2_with fail
            refine (of_c x 1 _ HCV.out (by unfold maxLen; omega) (HE.out.below (HBW.out.trans (HR3.out.mono HBW.out.size)))).mono ?_
            rintro e W4 ⟨rfl, hb⟩
            skip
            have HR4 := Lib.hid (HR3.out.trans (hb.mono HR3.out.size))
            have hci := hci'.out W4 HR4.out
            clear hb
            go_wp2_with fail
            go_roundw
            case rel => exact ⟨i + 1, by omega, by go_num, fun j hj => (HR4.out.cell (by exact hsz)).trans (HT.out j hj), Nat.lt_of_lt_of_le hsz HR4.out.size, HBW.out.trans (HR4.out.mono HBW.out.size)⟩
            case measure => simp [intOf]; omega
          · have hcv : WP.cls x.data.toList = 0 := by rw [hcls]; simp [hc, hv, hk]
            have hby : figByte x.data.toList = 0 := hfo hc
            have his : figIs x.data.toList = false := by rw [hfi]; simp [hc]
            have HCV := Lib.hid hcv
            have HBY := Lib.hid hby
            have HIS := Lib.hid his
            clear hcls hfi hfo hfb hcv hby his
            have hc0 : ic < 0 := by omega
            clear hc
            have hk0 : ik < 0 := by omega
            clear hk
            have hv0 : iv < 0 := by omega
            clear hv
            have HR0 := Lib.hid (Below.refl wr.heap.size wr)
            go_wp2_with fail
            refine (in_lit x _ WP.keysS WP.keysL _ (by kernel_rfl) (WP.LstS_size 0) WP.keysS_flds (by decide +kernel) (HE.out.below (HBW.out.trans (HR0.out.mono HBW.out.size)))).mono ?_
            rintro e W1 ⟨rfl, hb⟩
            rw [HIK.out]
            have HR1 := Lib.hid (HR0.out.trans (hb.mono HR0.out.size))
            have hci := hci'.out W1 HR1.out
            clear hb
            go_wp2_with fail
            refine (in_lit x _ WP.verbsS WP.verbsL _ (by kernel_rfl) (WP.LstS_size 1) WP.verbsS_flds (by decide +kernel) (HE.out.below (HBW.out.trans (HR1.out.mono HBW.out.size)))).mono ?_
            rintro e W2 ⟨rfl, hb⟩
            rw [HIV.out]
            have HR2 := Lib.hid (HR1.out.trans (hb.mono HR1.out.size))
            have hci := hci'.out W2 HR2.out
            clear hb
            go_wp2_with fail
            refine (in_lit x _ WP.constsS WP.constsL _ (by kernel_rfl) (WP.LstS_size 2) WP.constsS_flds (by decide +kernel) (HE.out.below (HBW.out.trans (HR2.out.mono HBW.out.size)))).mono ?_
            rintro e W3 ⟨rfl, hb⟩
            rw [HIC.out]
            have HR3 := Lib.hid (HR2.out.trans (hb.mono HR2.out.size))
            have hci := hci'.out W3 HR3.out
            clear hb
            go_wp2_with fail
            refine (byte_c x 0 false _ HBY.out HIS.out).mono ?_
            rintro e w0 ⟨rfl, rfl⟩
            go_wp2_with fail
            refine (of_c x 0 _ HCV.out (by unfold maxLen; omega) (HE.out.below (HBW.out.trans (HR3.out.mono HBW.out.size)))).mono ?_
            rintro e W4 ⟨rfl, hb⟩
            skip
            have HR4 := Lib.hid (HR3.out.trans (hb.mono HR3.out.size))
            have hci := hci'.out W4 HR4.out
            clear hb
            go_wp2_with fail
            go_roundw
            case rel => exact ⟨i + 1, by omega, by go_num, fun j hj => (HR4.out.cell (by exact hsz)).trans (HT.out j hj), Nat.lt_of_lt_of_le hsz HR4.out.size, HBW.out.trans (HR4.out.mono HBW.out.size)⟩
            case measure => simp [intOf]; omega
    · go_wp2_with fail
      refine (lives_any _ (HE.out.below hbel)).mono ?_
      rintro e w5 ⟨rfl, hb5⟩
      go_wp2_with fail
      go_ret
      exact ⟨rfl, hbel.trans (hb5.mono hbel.size)⟩

set_option maxHeartbeats 1000000 in
theorem wordsOf_big (s : ByteArray) (n : Nat) (w : World) (hE : Env w) (hs : 60 < (s.size : Int)) :
    Calls Tryd.prog 3 #[.string s, .int .u16 n] w fun e w' => e = .returned (.bool true) ∧ Below w.heap.size w w' := by
  have HE := Lib.hid hE
  clear hE
  go_enter Tryd.func3, Tryd.ntmps3
  go_wp2_with fail
  refine (lives_any _ HE.out).mono ?_
  rintro e w1 ⟨rfl, hb⟩
  go_wp2_with fail
  go_ret
  exact ⟨rfl, hb⟩
end Go.Proofs.YtphofgokcfdobaaDoor
