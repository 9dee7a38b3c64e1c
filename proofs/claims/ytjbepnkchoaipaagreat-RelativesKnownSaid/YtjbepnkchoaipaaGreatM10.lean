import Derived.Test.YtjbepnkchoaipaaGreatM09
import Derived.Deep.RegionLaw
import Derived.BigRegion
set_option linter.unusedVariables false
set_option linter.unusedSimpArgs false
/- Contract: add, where there is room. -/
namespace Go.Proofs.YtjbepnkchoaipaaGreat
open Go.RowKit Go.Lib Go.Maps Go.WideMaps
set_option maxRecDepth 100000
theorem row_keep {W w1 : World} {p : Nat} {t : TypeId} {C : Array Value} {o : Obj} {r : Option Nat} (h : W.heap[p]? = some (.cells C t (0, 0))) (hg : (W.alloc o).grownBy w1 r) (hne : r ≠ some p) : w1.heap[p]? = some (.cells C t (0, 0)) := by
  have hp : p < W.heap.size := (Array.getElem?_eq_some_iff.1 h).1
  exact (hg.block p (by simp; omega) (fun e => hne e.symm)).trans (((Below.refl W.heap.size W).alloc (Nat.le_refl _) o).block p hp |>.trans h)
theorem own_slice {w : World} {base n size : Nat} {e : TypeId} {v : Value} {xs : List Value} (h : w.ownsRow base e size v n xs) : ∃ A m c, v = .slice A m c := by
  rcases h.2 with ⟨rfl, _⟩ | ⟨g', cap, cur, rfl, _⟩
  · exact ⟨_, _, _, rfl⟩
  · exact ⟨_, _, _, rfl⟩
set_option maxHeartbeats 4000000 in
theorem add_put (p : Nat) (M : Nat → Prop) (s : J.St) (key : ByteArray) (A : Option Addr) (n c : Nat) (val : List UInt8) (w : World) (h : StoreR w p M s) (hk : key.size ≤ 1000) (hn : n ≤ 10000)
    (hv : Slc w M (.slice A n c) val) (hbig : 3 + key.size + (4 + n) ≤ 4194304 - s.size) (ho : s.opn = true) :
    Calls Tryz.prog 74 #[.pointer (some ⟨p, 0, none⟩), .agg #[.string key, .slice A n c, .bool false]] w fun e w' => e = .returned (.int .i64 0) ∧ ∃ M', StoreR w' p M' (J.add s ⟨key.data.toList, val, false⟩).1 ∧ Step M M' w w' := by
  obtain ⟨bn, bw, ch, wr, b0, b1, b2, b3, d0, d1, d2, d3, h1, h2, h3, h4⟩ := h
  have H1 := Lib.hid h1
  have H2 := Lib.hid h2
  have H3 := Lib.hid h3
  have H4 := Lib.hid h4
  have HV := Lib.hid hv
  have HO := Lib.hid ho
  have hpl : p < w.heap.size := (Array.getElem?_eq_some_iff.1 h1).1
  have hsz := h4.size
  have hchs := h4.chs
  have hB : Below w.heap.size w (w.alloc (.cells #[.string key, .slice A n c, .bool false] 133)) := (Below.refl _ _).alloc (Nat.le_refl _) _
  have hr1 := (hB.block p hpl).trans h1
  have hc := fun j => cell_of_row _ p j _ _ _ hr1
  have hf := frozen_row hr1
  have hb0 := fun j => World.cell?_alloc_new w #[.string key, .slice A n c, .bool false] 133 j
  obtain ⟨vs, g1, g2, g3⟩ := h3.chs
  have hne : ch.ownBlock ≠ some p := own_ne_row g2 h1 (by decide)
  have hbox : ((w.alloc (.cells #[.string key, .slice A n c, .bool false] 133))).heap[w.heap.size]? = some (.cells #[.string key, .slice A n c, .bool false] 133 (0, 0)) := heap_alloc_new w _
  have HNB := Lib.hid (show ch.ownBlock ≠ some w.heap.size from fun e => absurd (g2.lt _ e).2 (Nat.lt_irrefl _))
  have HB := Lib.hid hB
  have HR1 := Lib.hid hr1
  have HG := Lib.hid (own_same g2 (fun k e => hB.block k (g2.lt k e).2))
  have HG1 := Lib.hid g1
  have HG3 := Lib.hid g3
  have HN := Lib.hid hne
  have HX := Lib.hid hbox
  have HSZ := Lib.hid hsz
  clear h1 h2 h3 h4 hB hr1 g1 g2 g3 hne hv ho hbox
  have hcl : (⟨key.data.toList, val, false⟩ : J.Chg).len = 3 + key.size + (4 + n) := by
    have h1 : key.data.toList.length = key.size := rfl
    have h2 : val.length = n := by
      rcases HV.out with ⟨e, rfl⟩ | ⟨b, o, e, _⟩
      · injection e with _ e; exact e.symm
      · injection e with _ e; exact e.symm
    simp [J.Chg.len, h1, h2]
  have hadd : (J.add s ⟨key.data.toList, val, false⟩).1 = { s with changes := s.changes ++ [⟨key.data.toList, val, false⟩], size := s.size + (3 + key.size + (4 + n)), now := J.ins s.now key.data.toList val } := by
    unfold J.add; rw [if_neg (by rw [hcl]; omega), hcl]; rfl
  have hok := add_ok (c := ⟨key.data.toList, val, false⟩) H4.out HO.out (by rw [hcl]; omega) (fun e => by cases e)
  rw [hcl] at hok
  have hlen : s.now.length ≤ 100000000 := by
    have a := J.values_len s.now; have b := H4.out.now; have c := H4.out.logged; have d := H4.out.encs HO.out; have e := H4.out.size
    omega
  have HADD := Lib.hid hadd
  have HOK := Lib.hid hok
  have HLEN := Lib.hid hlen
  clear hcl hadd hok hlen
  have hb : ¬ ((4194304 : Int) - (s.size : Int) < 3 + (key.size : Int) + (4 + (n : Int))) := by omega
  go_enter Tryz.func74, Tryz.ntmps74
  go_upto_region 1 with fail
  generalize hW : w.alloc (.cells #[.string key, .slice A n c, .bool false] 133) = W at hc hf hb0 HB HR1 HG HX ⊢
  clear hW
  go_upto_region 7 with fail
  have hsl : (s.changes.length : Nat) + 1 ≤ 100000000 := by have := HSZ.out; omega
  have HSL := Lib.hid hsl
  have hnews : ∀ (W' : World), ∀ j u, ([.string key, .slice A n c, .bool false] : List Value)[j]? = some u → (W'.alloc (.cells #[.string key, .slice A n c, .bool false] 133)).cell? ((⟨W'.heap.size, 0, none⟩ : Addr).add j) = some u := fun W' j u hu => by
    have := World.cell?_alloc_new W' #[.string key, .slice A n c, .bool false] 133 j
    rw [show (⟨W'.heap.size, 0, none⟩ : Addr).add j = ⟨W'.heap.size, j, none⟩ by simp [Addr.add]; intro e; exact e.symm]
    rw [this]; rw [← hu]; simp
  have hone : ∀ u ∈ ([.string key, .slice A n c, .bool false] : List Value), u.oneCell' = true := by intro u hu; simp at hu; rcases hu with rfl | rfl | rfl <;> rfl
  have HNW := Lib.hid hnews
  have HONE := Lib.hid hone
  have hwr : IntKind.i64.wrap ((s.size : Int) + (3 + (key.size : Int) + (4 + (n : Int)))) = (s.size : Int) + (3 + (key.size : Int) + (4 + (n : Int))) := IntWalk.i64_in _ (by omega)
  clear hsl hnews hone
  have hcA := fun j => cell_of_row _ p j _ _ _ ((((Below.refl W.heap.size W).alloc (Nat.le_refl _) (.cells #[.string key, .slice A n c, .bool false] 133)).block p (Array.getElem?_eq_some_iff.1 HR1.out).1).trans HR1.out)
  go_region_law (refine step_app_ch (by rfl) _ _ (by rfl) ch s.changes.length (chCells s.changes vs) (by rfl) (HG.out.drew.alloc _) ⟨W.drew.heap.size, 0, none⟩ 1 1 [.string key, .slice A n c, .bool false] (by rfl) (by rfl) (HNW.out _) HONE.out HSL.out ?_; intro v1 w1 hown1 hg1 hl1; obtain ⟨A1, m1, c1, rfl⟩ := own_slice hown1; have hr1 := row_keep (W := W.drew) HR1.out hg1 HN.out; have hc1 := fun j => cell_of_row _ p j _ _ _ hr1; have hf1 := frozen_row hr1; have HR2 := Lib.hid hr1; have HOWN1 := Lib.hid hown1; have HGR := Lib.hid hg1; have HLR := Lib.hid hl1; have hrx := row_keep (W := W.drew) HX.out hg1 HNB.out; have hbx := fun j => cell_of_row _ w.heap.size j _ _ _ hrx; clear hr1 hown1 hg1 hl1 hrx)
  all_goals
    go_wp2_with fail
    have hA := add_app (cg := ⟨key.data.toList, val, false⟩) (n := s.size + (3 + key.size + (4 + n))) H3.out rfl (HB.out.drew.alloc HB.out.drew.size _) HG1.out HG3.out HV.out HOWN1.out HGR.out HLR.out
    have hM2 := add_mid hA.1 HR2.out (Or.inl H2.out) (.slice A1 m1 c1) (.int .i64 ((s.size : Int) + (3 + (key.size : Int) + (4 + (n : Int)))))
    have hp2 := hM2.2.1
    rw [add_cells s bn bw ch _ wr b0 b1 b2 b3 d0 d1 d2 d3 (s.changes ++ [⟨key.data.toList, val, false⟩]) (s.size + (3 + key.size + (4 + n))) _ (by push_cast; rfl)] at hp2
    have HA := Lib.hid hA
    have HM2 := Lib.hid hM2
    have HP2 := Lib.hid hp2
    clear hA hM2 hp2
    refine (apply_put p bn _ s.now _ key A n c val _ HP2.out rfl HM2.out.1.now HM2.out.1.mbn (by unfold maxLen; omega) ((HV.out.step HA.out.2).step HM2.out.2.2) HLEN.out).mono ?_
    rintro e w3 ⟨rfl, hm3, hg3⟩
    have hfin := add_fin HM2.out.1 HP2.out (Or.inl H2.out) hg3 hm3 HOK.out
    have HF := Lib.hid hfin
    clear hm3 hg3 hfin
    go_wp2_with fail
    go_ret
    exact ⟨rfl, _, HADD.out ▸ HF.out.1, (HA.out.2.trans HM2.out.2.2).trans HF.out.2⟩
end Go.Proofs.YtjbepnkchoaipaaGreat
