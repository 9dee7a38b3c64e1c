import Derived.Test.YthjjbaiijelhnaaM41
set_option linter.unusedVariables false
set_option linter.unusedSimpArgs false
/- Law 30: run, the walk. -/
namespace Go.Proofs.Ythjjbaiijelhnaa
open Go.RowKit Go.Lib Go.Maps Go.WideMaps Go.Sort
set_option maxRecDepth 100000
theorem one_new (w : World) (x : Value) (t : TypeId) : (w.alloc (.cells #[x] t)).cell? ⟨w.heap.size, 0, none⟩ = some x := (cell_of_row _ _ 0 _ _ _ (heap_alloc_new w _)).trans rfl
theorem RunC.vsl {w0 w : World} {p q : Nat} {Aa : Option Addr} {L : List J.Ac} {M0 : Nat → Prop} {sv av : Value} {vs : List Value} {M : Nat → Prop} {s : J.St} {m : LM} {states : List (List (J.B × J.B))} {at_ : List Nat} (h : RunC w0 p q Aa L M0 sv av vs M s m states at_ w) : ∀ u ∈ vs, isSl u := fun u hu => by
  obtain ⟨i, hi, rfl⟩ := List.getElem_of_mem hu
  have hi2 : i < states.length := by rw [← h.vlen]; exact hi
  obtain ⟨A, c, e⟩ := (h.sts i vs[i] states[i] (List.getElem?_eq_getElem hi) (List.getElem?_eq_getElem hi2)).slice_
  exact ⟨_, _, _, e⟩
theorem World.heap_alloc_size1 (w : World) (o : Obj) : (w.alloc o).heap.size = w.heap.size + 1 := by simp
theorem nums_i64 (l : List Nat) : ∀ u ∈ l.map num, isI64 u := fun u hu => by
  obtain ⟨x, _, rfl⟩ := List.mem_map.1 hu
  exact ⟨_, rfl⟩
theorem run_len {A u0 u U b k : Nat} {L : List J.Ac} {s : J.St} {m : LM} {states : List (List (J.B × J.B))} {at_ : List Nat} (hh : J.Hist True s b states at_) (hk : J.Kept A u0 (u + J.units (L.take k)) s m) (hl : J.Lim A u0 (u + U)) (hu : J.units (L.take k) ≤ U) : states.length ≤ 541 := by
  have h1 := hh.com
  have h2 := hk.bud.cm
  have h3 := hl.u
  have h4 := hh.len
  omega
set_option maxHeartbeats 4000000 in
theorem run_any (A u0 u : Nat) (p q : Nat) (M : Nat → Prop) (s : J.St) (m : LM) (Aa : Option Addr) (c : Nat) (L : List J.Ac) (b : Nat) (w : World) (hst : StoreR w p M s) (hmd : ModR w q M m) (hcap : ∀ k, M k → k < w.heap.size) (hk : J.Kept A u0 u s m) (hl : J.Lim A u0 (u + J.units L))
    (ha : ActsAt w (fun k => M k ∨ k = q) Aa L) (hh : J.Hist True s b [m.now] [0]) (hu : J.units L ≤ 1000) :
    Calls Try.prog 29 #[.pointer (some ⟨p, 0, none⟩), .pointer (some ⟨q, 0, none⟩), .slice Aa L.length c] w fun e w' => ∃ sv av, e = .returned (.tuple #[sv, av, .bool true]) ∧ ∃ vs M' s' m' states at_, RunC w p q Aa L M sv av vs M' s' m' states at_ w' ∧ J.Kept A u0 (u + J.units L) s' m' ∧ J.Hist True s' b states at_ ∧ ∀ l ∈ states, J.Good (u + J.units L) l := by
  obtain ⟨is, his, hsz0, hsz1, hsz2⟩ := info_parts Try.infoPS
  obtain ⟨ii, hii, hiz0, hiz1, hiz2⟩ := info_parts Try.infoI
  have hqlt := hmd.lt
  have hnb := hmd.noBy
  have hmd' := hmd
  obtain ⟨nv, wv, hrow, hqM, hnv, hwv⟩ := hmd'
  have hnoS := mod_noStr hrow hnv.shape hwv.shape
  obtain ⟨Anv, nnv, cnv, rfl⟩ := hnv.shape
  have hB1 : Below w.heap.size w (w.alloc (.cells #[.slice Anv nnv cnv] 41)) := (Below.refl _ w).alloc (Nat.le_refl _) _
  have hB2 : Below w.heap.size w ((w.alloc (.cells #[.slice Anv nnv cnv] 41)).alloc (.cells #[.int .i64 0] 3)) := hB1.alloc hB1.size _
  have hC : RunC w p q Aa L M (.slice (some ⟨w.heap.size, 0, none⟩) 1 1) (.slice (some ⟨(w.alloc (.cells #[.slice Anv nnv cnv] 41)).heap.size, 0, none⟩) 1 1) [.slice Anv nnv cnv] M s m [m.now] [0] ((w.alloc (.cells #[.slice Anv nnv cnv] 41)).alloc (.cells #[.int .i64 0] 3)) := by
    refine ⟨hst.below hB2, hmd.step (Step.of_below hB2), fun k hk => Nat.lt_of_lt_of_le (hcap k hk) hB2.size, hqlt, ha.step (Step.of_below hB2), rfl, ?_, ?_, ?_, ?_, ?_, ?_, ?_, Step.of_below hB2⟩
    · exact (World.ownsRow_lit (base := w.heap.size) (e := 41) (size := 1) w #[.slice Anv nnv cnv] 1 (Nat.le_refl _) (by decide) rfl).alloc _
    · exact (rowP_lit isSl w (.slice Anv nnv cnv) 1 1 _ ⟨_, _, _, rfl⟩).same (fun g e => Below.heap_alloc _ _ g (by simp [Value.ownBlock] at e; simp; omega))
    · intro i v l h1 h2
      match i, h1, h2 with
      | 0, h1, h2 =>
        simp at h1 h2
        subst h1 h2
        exact (hnv.orq hnoS).step (Step.of_below hB2)
      | i + 1, h1, h2 => simp at h1
    · intro g e hm
      have := hcap g hm
      simp [Value.ownBlock] at e; omega
    · exact World.ownsRow_lit (base := w.heap.size) (e := 3) (size := 1) (w.alloc (.cells #[.slice Anv nnv cnv] 41)) #[.int .i64 0] 1 hB1.size (by decide) rfl
    · exact rowP_lit isI64 _ (.int .i64 0) 1 1 _ ⟨_, rfl⟩
    · intro g e hm
      have := hcap g hm
      simp [Value.ownBlock] at e; omega
  rw [show (w.alloc (.cells #[.slice Anv nnv cnv] 41)).heap.size = w.heap.size + 1 by simp] at hC
  have HC := Lib.hid hC
  have HK := Lib.hid hk
  have HH := Lib.hid hh
  have HL := Lib.hid hl
  have hcq := fun j => cell_of_row w q j _ _ _ hrow
  have hll : L.length ≤ 1000 := Nat.le_trans (J.units_len L) hu
  clear hC hk hh hst hmd ha hnv hwv hnoS hnb hB1 hB2 hl hrow
  go_enter Try.func29, Try.ntmps29
  go_wp2_with fail
  go_loopw [9, 10, 11] (fun sv av i wr => ∃ k : Nat, k ≤ L.length ∧ i = .int .i64 k ∧ ∃ vs M' s' m' states at_, Hid (RunC w p q Aa L M sv av vs M' s' m' states at_ wr) ∧ Hid (J.Kept A u0 (u + J.units (L.take k)) s' m') ∧ Hid (J.Hist True s' b states at_) ∧ Hid (∀ l ∈ states, J.Good (u + J.units (L.take k)) l)) (fun _ _ i _ => L.length - (intOf i).toNat)
  case atStart => exact ⟨0, Nat.zero_le _, rfl, _, _, _, _, _, _, HC, Lib.hid (by rw [List.take_zero]; exact HK.out), HH, Lib.hid (fun l hl => by simp at hl; subst hl; rw [HK.out.rel.now]; exact ⟨HK.out.bud.kn, by have := HK.out.bud.vn; omega⟩)⟩
  case round =>
    clear hcq HC HK HH
    obtain ⟨k, hk, rfl, vs, M', s', m', states, at_, HC, HK, HH, HG⟩ := hrel
    by_cases hlt : k < L.length
    · obtain ⟨ba, oa, rfl, hba, hbm, hcs⟩ := HC.out.acts (by omega)
      obtain ⟨hc0, hc1, ⟨v, hc2, hsl⟩, hwhat, hkey⟩ := hcs k hlt
      obtain ⟨Av, cv, rfl, _, _⟩ := hsl.by
      have hmem := List.getElem_mem hlt
      have hun := J.units_le L L[k] hmem
      have HUS := Lib.hid (J.units_snoc L k hlt)
      have HUT := Lib.hid (J.units_take L (k + 1))
      obtain ⟨nv', wv', hrow', hqM', hnv', hwv'⟩ := HC.out.md
      obtain ⟨An, nn, cn, rfl⟩ := hnv'.shape
      have hcq := fun j => cell_of_row _ q j _ _ _ hrow'
      have hin : DoesIn A u0 (u + J.units (L.take k)) (1 + L[k].val.length / 8) p q M' s' m' L[k].key Av L[k].val.length cv L[k].val wr :=
        ⟨HC.out.st, HC.out.md, HC.out.cap, HK.out, ⟨by have := HL.out.area; have := HUT.out; rw [HUS.out] at this; omega, by have := HL.out.u; have := HUT.out; rw [HUS.out] at this; omega⟩, hsl.weak (fun k h => .inl h), by omega, by omega, by omega, hkey⟩
      have HD := Lib.hid (does_any A u0 (u + J.units (L.take k)) (1 + L[k].val.length / 8) p q M' s' m' L[k].what L[k].key Av L[k].val.length cv L[k].val wr hin)
      clear hin hsl hcs hmem hrow' hnv' hwv'
      generalize L[k].what = ka at hc0 HD
      generalize L[k].key = kb at hc1 HD
      have HU2 := Lib.hid (show u + J.units (L.take (k + 1)) = u + J.units (L.take k) + (1 + L[k].val.length / 8) by rw [HUS.out]; omega)
      generalize L[k].val.length = kn at hc2 HD HU2
      go_wp2_with fail
      refine HD.out.mono ?_
      rintro e w1 ⟨rfl, M2, s2, m2, hst2, hmd2, hk2, hh2, hstep2⟩
      have HC1 := Lib.hid (HC.out.does hst2 hmd2 hstep2)
      have HK1 := Lib.hid (show J.Kept A u0 (u + J.units (L.take (k + 1))) s2 m2 by rw [HU2.out]; exact hk2)
      have hcase := hh2 b states at_ HH.out
      obtain ⟨nv2, wv2, hrow2, hq2, hnv2, hwv2⟩ := HC1.out.md
      obtain ⟨An2, nn2, cn2, rfl⟩ := hnv2.shape
      have hpw := hnv2.orq (mod_noStr hrow2 hnv2.shape hwv2.shape)
      have hcq2 := fun j => cell_of_row _ q j _ _ _ hrow2
      clear hcq hst2 hmd2 hk2 hh2 hstep2 hnv2 hwv2 hrow2 HD
      rcases hcase with ⟨hcm, hh3⟩ | ⟨hcm, hh3⟩
      · have HH1 := Lib.hid hh3
        have hc' : ¬ (m'.commits : Int) < (m2.commits : Int) := by omega
        clear hh3 hpw
        go_wp2_with fail
        go_roundw
        case rel => exact ⟨k + 1, by omega, by go_num, _, _, _, _, _, _, HC1, HK1, HH1, Lib.hid (fun l hl => (HG.out l hl).more (by have := HU2.out; omega))⟩
        case measure => simp [intOf]; omega
      · have HH1 := Lib.hid hh3
        have HPW := Lib.hid hpw
        have hc' : (m'.commits : Int) < (m2.commits : Int) := by omega
        clear hh3 hpw
        have hB3 : Below w1.heap.size w1 (w1.alloc (.cells #[.slice An2 nn2 cn2] 41)) := (Below.refl _ w1).alloc (Nat.le_refl _) _
        have HB3 := Lib.hid (HC1.out.below hB3)
        have HPW2 := Lib.hid (HPW.out.step (Step.of_below hB3))
        have hsl : states.length ≤ 541 := run_len HH.out HK.out HL.out (J.units_take L k)
        have hal : at_.length ≤ 541 := by have := HH.out.len; omega
        have hbz : w.heap.size ≤ (w1.alloc (.cells #[.slice An2 nn2 cn2] 41)).heap.size := Nat.le_trans HC1.out.step.size hB3.size
        clear hB3
        go_wp2_with (at_builtin; refine wpList_append_P _ rfl _ _ 70 rfl isSl w.heap.size 41 is (.slice none 0 0) 24 Try.underlying70 his hsz0 hsz1 hsz2 rfl ⟨_, _, _, rfl⟩ _ states.length vs rfl HB3.out.srow HB3.out.sp HB3.out.vsl ⟨w1.heap.size, 0, none⟩ 1 (.slice An2 nn2 cn2) rfl (one_new _ _ _) rfl ⟨_, _, _, rfl⟩ (by unfold maxLen; omega) (by omega) hbz ?_)
        intro v3 w3 hown3 hg3 hat3 hp3
        have HC3 := Lib.hid (HB3.out.growS HPW2.out hown3 hg3 (by rw [World.heap_alloc_size1]; exact hat3) hp3)
        clear hown3 hg3 hat3 hp3 hbz hcq2
        go_wp2_with fail
        refine (writes_any p _ s2 _ HC3.out.st).mono ?_
        rintro e Y ⟨rfl, hY⟩
        obtain rfl : w3 = Y := hY
        have hB4 : Below w3.heap.size w3 (w3.alloc (.cells #[num s2.writes.length] 3)) := (Below.refl _ w3).alloc (Nat.le_refl _) _
        have HB4 := Lib.hid (HC3.out.below hB4)
        have hbz : w.heap.size ≤ (w3.alloc (.cells #[num s2.writes.length] 3)).heap.size := Nat.le_trans HC3.out.step.size hB4.size
        clear hB4
        go_wp2_with (at_builtin; refine wpList_append_P _ rfl _ _ 71 rfl isI64 w.heap.size 3 ii (.int .i64 0) 8 Try.underlying71 hii hiz0 hiz1 hiz2 rfl ⟨_, rfl⟩ _ at_.length (at_.map num) rfl HB4.out.arow HB4.out.ap (nums_i64 _) ⟨w3.heap.size, 0, none⟩ 1 (num s2.writes.length) rfl (one_new _ _ _) rfl ⟨_, rfl⟩ (by unfold maxLen; omega) (by omega) hbz ?_)
        intro v5 w5 hown5 hg5 hat5 hp5
        have HC5 := Lib.hid (HB4.out.growA hown5 hg5 (by rw [World.heap_alloc_size1]; exact hat5) hp5)
        clear hown5 hg5 hat5 hp5 hbz
        go_wp2_with fail
        go_roundw
        case rel => exact ⟨k + 1, by omega, by go_num, _, _, _, _, _, _, HC5, HK1, HH1, Lib.hid (fun l hl => by
          rcases List.mem_append.1 hl with hl | hl
          · exact (HG.out l hl).more (by have := HU2.out; omega)
          · simp at hl; subst hl
            rw [HK1.out.rel.now]; exact ⟨HK1.out.bud.kn, HK1.out.bud.vn⟩)⟩
        case measure => simp [intOf]; omega
    · obtain rfl : k = L.length := by omega
      have HK2 := HK.out
      rw [List.take_length] at HK2
      have HK3 := Lib.hid HK2
      have HG1 := HG.out
      rw [List.take_length] at HG1
      have HG2 := Lib.hid HG1
      clear HK2 HK HG1 HG
      go_wp2
      go_ret3
      exact ⟨_, _, rfl, _, _, _, _, _, _, HC.out, HK3.out, HH.out, HG2.out⟩
end Go.Proofs.Ythjjbaiijelhnaa
