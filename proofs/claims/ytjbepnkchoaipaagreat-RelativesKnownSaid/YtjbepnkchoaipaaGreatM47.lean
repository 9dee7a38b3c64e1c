import Derived.Test.YtjbepnkchoaipaaGreatM36
import Derived.Test.YtjbepnkchoaipaaGreatM41
import Derived.Test.YtjbepnkchoaipaaGreatM46
import Derived.Test.YtjbepnkchoaipaaGreatM38
set_option linter.unusedVariables false
set_option linter.unusedSimpArgs false
/- Law 31: All. -/
namespace Go.Proofs.YtjbepnkchoaipaaGreat
open Go.RowKit Go.Lib Go.Maps Go.WideMaps Go.Sort
set_option maxRecDepth 100000
theorem Tryz.infoI : (Tryz.prog.info? 3).map (fun i => (i.zero, i.size, i.bytes)) = some (some (.int .i64 0), 1, 8) := by kernel_rfl
theorem Tryz.infoBs : (Tryz.prog.info? 37).map (fun i => (i.zero, i.size, i.bytes)) = some (some (.slice none 0 0), 1, 24) := by kernel_rfl
theorem clipI_any (A : Addr) (n c : Nat) (w : World) (hc : n ≤ c) :
    Calls Tryz.prog 82 #[.slice (some A) n c] w fun e w' => e = .returned (.slice (some A) n n) ∧ w = w' := by
  go_enter Tryz.func82, Tryz.ntmps82
  go_wp2
  go_ret
  exact ⟨rfl, rfl⟩
theorem clipI_nil (w : World) :
    Calls Tryz.prog 82 #[.slice none 0 0] w fun e w' => e = .returned (.slice none 0 0) ∧ w = w' := by
  go_enter Tryz.func82, Tryz.ntmps82
  go_wp2
  go_ret
  exact ⟨rfl, rfl⟩
theorem clipBs_any (A : Addr) (n c : Nat) (w : World) (hc : n ≤ c) :
    Calls Tryz.prog 83 #[.slice (some A) n c] w fun e w' => e = .returned (.slice (some A) n n) ∧ w = w' := by
  go_enter Tryz.func83, Tryz.ntmps83
  go_wp2
  go_ret
  exact ⟨rfl, rfl⟩
theorem clipBs_nil (w : World) :
    Calls Tryz.prog 83 #[.slice none 0 0] w fun e w' => e = .returned (.slice none 0 0) ∧ w = w' := by
  go_enter Tryz.func83, Tryz.ntmps83
  go_wp2
  go_ret
  exact ⟨rfl, rfl⟩
section
variable {w0 : World} {p : Nat} {nm : J.B} {rel : Bool} {size : Nat} {w W W' : World} {s : J.St} {fs : List (Nat × Obj)} {rows : R.Rows} {base n n1 n2 : Nat} {e e1 e2 : TypeId} {v v1 v2 : Value} {xs xs1 xs2 : List Value}
theorem own_type (h : W.ownsRow base e 1 v n xs) {k : Nat} (hv : v.ownBlock = some k) : ∃ cur, W.heap[k]? = some (.cells cur e (0, 0)) := by
  rcases h.2 with ⟨rfl, _⟩ | ⟨g, cap, cur, rfl, _, hg, _⟩
  · cases hv
  · have : g = k := by simpa [Value.ownBlock] using hv
    subst this
    exact ⟨cur, hg⟩
theorem own_cross (he : e1 ≠ e2) (h1 : W.ownsRow base e1 1 v1 n1 xs1) (h2 : W.ownsRow base e2 1 v2 n2 xs2) (hg : W.grownBy W' v2.ownBlock) : W'.ownsRow base e1 1 v1 n1 xs1 :=
  own_same h1 (fun k hk => hg.block k (h1.lt k hk).2 (fun hh => by
    obtain ⟨c1, a1⟩ := own_type h1 hk
    obtain ⟨c2, a2⟩ := own_type h2 hh.symm
    rw [a1] at a2
    injection a2 with a2
    injection a2 with _ a2
    exact he a2))
theorem slc_grow {l : J.B} {x : Value} (he : e ≠ 5) (h : Slc W NoM x l) (ho : W.ownsRow base e 1 v n xs) (hg : W.grownBy W' v.ownBlock) : Slc W' NoM x l := by
  have h1 : Slc W (fun k => v.ownBlock = some k) x l := by
    rcases h with h | ⟨b, o, e', h1, h2, _, h3⟩
    · exact .inl h
    · have hne : ¬ v.ownBlock = some b := fun hh => by
        obtain ⟨c2, a2⟩ := own_type ho hh
        obtain ⟨_, cur, _, a1⟩ := h2
        rw [a1] at a2
        injection a2 with a2
        injection a2 with _ a2
        exact he a2.symm
      refine .inr ⟨b, o, e', h1, h2, hne, h3.1, fun hn => ?_⟩
      obtain ⟨b', o', e2, q1, _, q3⟩ := h3.2 hn
      injection e2 with e2
      injection e2 with e2 e3
      subst e2 e3
      exact ⟨_, _, rfl, q1, hne, q3⟩
  exact (h1.step (Step.of_grown hg (fun k e _ => e) : Step _ (fun k => v.ownBlock = some k) W W')).weak (fun _ h => h.elim)
/-- What holds at the beginning of a round of All. -/
structure RaI (base : Nat) (rows : R.Rows) (k : Nat) (o1 o2 : Value) (w2 W : World) : Prop where
  bel : Below w2.heap.size w2 W
  bs : base = w2.heap.size
  nums : W.ownsRow base 3 1 o1 k ((rows.map fun r => (.int .i64 (r.1 : Nat) : Value)).take k)
  vals : ∃ ys : List Value, W.ownsRow base 37 1 o2 k ys ∧ ∀ i (h : i < ys.length) (h' : i < rows.length), Slc W NoM ys[i] rows[i].2
theorem own_below (h : W.ownsRow base e 1 v n xs) (hb : Below W.heap.size W W') : W'.ownsRow base e 1 v n xs := own_same h (fun k hk => hb.block k (h.lt k hk).2)
theorem slc_below {l : J.B} {x : Value} (h : Slc W NoM x l) (hb : Below W.heap.size W W') : Slc W' NoM x l := h.step (Step.of_below hb)
theorem alloc_below (W : World) (o : Obj) : Below W.heap.size W (W.alloc o) := (Below.refl _ _).alloc (Nat.le_refl _) o
theorem ra_step {k : Nat} {o1 o2 x v1 v2 : Value} {w3 wr w5 w6 w7 : World} {O1 O2 : Obj} {ys : List Value} (hI : RaI base rows k o1 o2 w3 wr) (hk : k < rows.length) (h2 : wr.ownsRow base 37 1 o2 k ys) (hys : ∀ i (h : i < ys.length) (h' : i < rows.length), Slc wr NoM ys[i] rows[i].2)
    (hb5 : Below wr.heap.size wr w5) (hx : Slc w5 NoM x rows[k].2) (a1 : w6.ownsRow base 3 1 v1 (k + 1) (((rows.map fun r => (.int .i64 (r.1 : Nat) : Value)).take k) ++ [.int .i64 (rows[k].1 : Nat)])) (g1 : (w5.alloc O1).grownBy w6 o1.ownBlock)
    (a2 : w7.ownsRow base 37 1 v2 (k + 1) (ys ++ [x])) (g2 : (w6.alloc O2).grownBy w7 o2.ownBlock) : RaI base rows (k + 1) v1 v2 w3 w7 := by
  have hne1 : 37 ≠ 3 := by decide
  have hne2 : 3 ≠ 5 := by decide
  have hne3 : 37 ≠ 5 := by decide
  have n5 := own_below (own_below hI.nums hb5) (alloc_below w5 O1)
  have m5 := own_below (own_below h2 hb5) (alloc_below w5 O1)
  have m6 := own_cross hne1 m5 n5 g1
  have b5 : Below w3.heap.size w3 (w5.alloc O1) := (hI.bel.trans (hb5.mono hI.bel.size)).alloc (Nat.le_trans hI.bel.size hb5.size) O1
  have b6 := b5.grown g1 b5.size (fun j hj => by rw [← hI.bs]; exact (n5.lt j hj).1)
  have m6' := own_below m6 (alloc_below w6 O2)
  have b6' := b6.alloc b6.size O2
  have b7 := b6'.grown g2 b6'.size (fun j hj => by rw [← hI.bs]; exact (m6'.lt j hj).1)
  have go : ∀ y l, Slc w5 NoM y l → Slc w7 NoM y l := fun y l hy => slc_grow hne3 (slc_below (slc_grow hne2 (slc_below hy (alloc_below w5 O1)) n5 g1) (alloc_below w6 O2)) m6' g2
  refine ⟨b7, hI.bs, ?_, ys ++ [x], a2, fun i h h' => ?_⟩
  · rw [List.take_succ_eq_append_getElem (by rw [List.length_map]; exact hk), List.getElem_map]
    exact own_cross hne1.symm (own_below a1 (alloc_below w6 O2)) m6' g2
  · have hyl : ys.length = k := by have := h2.1; omega
    by_cases hik : i < ys.length
    · rw [List.getElem_append_left hik]
      exact go _ _ (slc_below (hys i hik h') hb5)
    · have : i = k := by rw [List.length_append, List.length_singleton] at h; omega
      subst this
      rw [List.getElem_append_right (by omega)]
      simpa [hyl] using go _ _ hx
theorem clipI_own (h : W.ownsRow base 3 1 v n xs) :
    Calls Tryz.prog 82 #[v] W fun e w' => ∃ A, e = .returned (.slice A n n) ∧ (∀ i (h : i < xs.length), ∃ g, A = some ⟨g, 0, none⟩ ∧ g < W.heap.size ∧ W.cell? ⟨g, i, none⟩ = some xs[i]) ∧ W = w' := by
  have h' := h
  have hl := h.1
  rcases h.2 with ⟨rfl, h0⟩ | ⟨g, cap, cur, rfl, _, hg, hc, _⟩
  · subst h0
    refine (clipI_nil W).mono ?_
    rintro e w1 ⟨rfl, rfl⟩
    exact ⟨none, rfl, fun i hi => by omega, rfl⟩
  · refine (clipI_any ⟨g, 0, none⟩ n cap W hc).mono ?_
    rintro e w1 ⟨rfl, rfl⟩
    refine ⟨_, rfl, fun i hi => ⟨g, rfl, (Array.getElem?_eq_some_iff.1 hg).1, ?_⟩, rfl⟩
    rw [h'.cellAt i (by omega), List.getElem?_eq_getElem hi]
theorem clipBs_own (h : W.ownsRow base 37 1 v n xs) :
    Calls Tryz.prog 83 #[v] W fun e w' => ∃ A, e = .returned (.slice A n n) ∧ (∀ i (h : i < xs.length), ∃ g, A = some ⟨g, 0, none⟩ ∧ g < W.heap.size ∧ W.cell? ⟨g, i, none⟩ = some xs[i]) ∧ W = w' := by
  have h' := h
  have hl := h.1
  rcases h.2 with ⟨rfl, h0⟩ | ⟨g, cap, cur, rfl, _, hg, hc, _⟩
  · subst h0
    refine (clipBs_nil W).mono ?_
    rintro e w1 ⟨rfl, rfl⟩
    exact ⟨none, rfl, fun i hi => by omega, rfl⟩
  · refine (clipBs_any ⟨g, 0, none⟩ n cap W hc).mono ?_
    rintro e w1 ⟨rfl, rfl⟩
    refine ⟨_, rfl, fun i hi => ⟨g, rfl, (Array.getElem?_eq_some_iff.1 hg).1, ?_⟩, rfl⟩
    rw [h'.cellAt i (by omega), List.getElem?_eq_getElem hi]
end
end Go.Proofs.YtjbepnkchoaipaaGreat
/- Law 31: All, the walk. -/
namespace Go.Proofs.YtjbepnkchoaipaaGreat
open Go.RowKit Go.Lib Go.Maps Go.WideMaps Go.Sort
set_option maxRecDepth 100000
section
variable {w0 : World} {p : Nat} {nm : J.B} {rel : Bool} {size : Nat} {w W W' : World} {s : J.St} {fs : List (Nat × Obj)} {rows : R.Rows} {base : Nat}
theorem all_none (h : At w0 p fs s w) (hs : s.now = []) (hnm : nm.length ≤ 3) :
    Calls Tryz.prog 53 #[.pointer (some ⟨p, 0, none⟩), .string ⟨nm.toArray⟩] w fun e w' => e = .returned (.tuple #[.slice none 0 0, .slice none 0 0, .int .i64 7]) ∧ Below w.heap.size w w' := by
  have HG := Lib.hid (at_get h (R.own nm) (by rw [R.own_len]; omega) (fun l hl => by rw [hs] at hl; cases hl))
  rw [hs, show J.look ([] : List (J.B × J.B)) (R.own nm) = none from rfl] at HG
  have hl1 : ¬ 9223372036854775807 < nm.length + 2 := by omega
  have hl2 := own_str nm
  clear h hs
  go_enter Tryz.func53, Tryz.ntmps53
  go_wp2_with fail
  refine HG.out.mono ?_
  rintro e w1 ⟨v, rfl, hsl, _, hb⟩
  obtain ⟨A, rfl, _⟩ := hsl.shape
  have HB := Lib.hid hb
  clear hsl hb HG
  go_wp2
  refine bodyPost_ret (results_tmp3 rfl _ _ _) rfl ?_
  exact ⟨rfl, HB.out⟩
/-- What All lays. -/
structure AllOut (w' : World) (A B : Option Addr) (rows : R.Rows) : Prop where
  num : ∀ i (h : i < rows.length), ∃ g, A = some ⟨g, 0, none⟩ ∧ g < w'.heap.size ∧ w'.cell? ⟨g, i, none⟩ = some (nmI rows[i].1)
  val : ∀ i (h : i < rows.length), ∃ g v, B = some ⟨g, 0, none⟩ ∧ g < w'.heap.size ∧ w'.cell? ⟨g, i, none⟩ = some v ∧ Sl w' NoM v rows[i].2
theorem all_look {u : Nat} {m : R.M} (hs : s.now = R.fmap nm (some (R.attr rel size)) rows) (hok : R.RowsOk rows) {j : Nat} (hj : j < rows.length) : J.look s.now (R.key nm rows[j].1) = some rows[j].2 := by
  rw [hs, R.look_key hok (by have := hok.pos _ (List.getElem_mem hj); omega)]
  exact R.look_of_mem hok (List.getElem_mem hj)
set_option maxHeartbeats 2000000 in
theorem all_rows (h : At w0 p fs s w) (hs : s.now = R.fmap nm (some (R.attr rel size)) rows) (hok : R.RowsOk rows) (hlen : ∀ r ∈ rows, 1 ≤ r.2.length ∧ r.2.length ≤ size) (hsz : size ≤ 4096) (hn : rows.length ≤ 1000) (hnm : nm.length ≤ 3) :
    Calls Tryz.prog 53 #[.pointer (some ⟨p, 0, none⟩), .string ⟨nm.toArray⟩] w fun e w' => ∃ A B, e = .returned (.tuple #[.slice A rows.length rows.length, .slice B rows.length rows.length, .int .i64 0]) ∧ AllOut w' A B rows ∧ Below w.heap.size w w' := by
  obtain ⟨i1, hi1, hy0, hy1, hy2⟩ := info_parts Tryz.infoI
  obtain ⟨i2, hi2, hz0, hz1, hz2⟩ := info_parts Tryz.infoBs
  have HG := Lib.hid (at_get h (R.own nm) (by rw [R.own_len]; omega) (fun l hl => by rw [hs, R.look_own] at hl; injection hl with hl; subst hl; show 5 ≤ 90000000; omega))
  rw [hs, R.look_own] at HG
  have HREC := Lib.hid (fun W => records_any nm W (by omega))
  have hks := fun W (hb : Below w.heap.size w W) => at_keys (h.below hb) ⟨(R.recs nm).toArray⟩ (by rw [hs]; show (_ :: rows.map _).length ≤ 1000000; rw [List.length_cons, List.length_map]; omega)
  rw [hs, R.keys_recs] at hks
  have HKS := Lib.hid hks
  have HAT := Lib.hid h
  have HLK := Lib.hid (fun j (hj : j < rows.length) => all_look (u := 0) (m := ⟨rel, size, true, rows, 0, 0, 0⟩) hs hok hj)
  have HOK := Lib.hid hok
  have HLN := Lib.hid hlen
  have hl1 : ¬ 9223372036854775807 < nm.length + 2 := by omega
  have hl2 := own_str nm
  clear h hs hks hok hlen
  go_enter Tryz.func53, Tryz.ntmps53
  go_wp2_with fail
  refine HG.out.mono ?_
  rintro e w1 ⟨v, rfl, hsl, _, hb⟩
  rw [show (some (R.attr rel size)).getD [] = R.attr rel size from rfl] at hsl
  obtain ⟨A, rfl, hby⟩ := hsl.shape
  have hcs : ∃ (g o : Nat) (r a b c d : Nat), A = some ⟨g, o, none⟩ ∧ r ≤ 1 ∧ a < 256 ∧ b < 256 ∧ c < 256 ∧ d < 256 ∧ a * 16777216 + b * 65536 + c * 256 + d = size ∧ w1.cell? ⟨g, o, none⟩ = some (.int .u8 r) ∧ w1.cell? ⟨g, o + 1, none⟩ = some (.int .u8 a) ∧ w1.cell? ⟨g, o + 2, none⟩ = some (.int .u8 b) ∧ w1.cell? ⟨g, o + 3, none⟩ = some (.int .u8 c) ∧ w1.cell? ⟨g, o + 4, none⟩ = some (.int .u8 d) := by
    obtain ⟨g, o, rfl, _, _, hc⟩ := hby.2 (by show 0 < 5; omega)
    have hv := R.val4_be4 (n := size) (by omega)
    refine ⟨g, o, _, _, _, _, _, rfl, ?_, UInt8.toNat_lt _, UInt8.toNat_lt _, UInt8.toNat_lt _, UInt8.toNat_lt _, hv, hc 0 (by show 0 < 5; omega), hc 1 (by show 1 < 5; omega), hc 2 (by show 2 < 5; omega), hc 3 (by show 3 < 5; omega), hc 4 (by show 4 < 5; omega)⟩
    unfold R.attr
    cases rel
    · show (0 : UInt8).toNat ≤ 1; decide
    · show (1 : UInt8).toNat ≤ 1; decide
  obtain ⟨g, o, r0, a0, a1, a2, a3, rfl, hr0, l0, l1, l2, l3, hv, c0, c1, c2, c3, c4⟩ := hcs
  have HB := Lib.hid hb
  have HV := Lib.hid (four_val a0 a1 a2 a3 l0 l1 l2 l3)
  rw [hv] at HV
  rw [show (R.attr rel size).length = 5 from rfl]
  have hr1 : ¬ (1 : Int) < (r0 : Nat) := by omega
  clear hsl hby hb HG l0 l1 l2 l3 hv
  go_upto_region 8 with fail
  refine wp_region_pm 21 (.rd 0 (.rd 1 (.rd 2 (.rd 3 (.rd 4 (.rd 5 (.rd 6 (.rd 7 (.rd 8 (.rd 9 (.rd 10 (.rd 11 (.rd 12 (.rd 13 (.rd 14 (.rd 15 (.rd 16 (.rd 17 (.rd 18 (.rd 19 (.rd 20 .fin))))))))))))))))))))) (fun w' => ∀ o, w'.cell? ⟨g, o, none⟩ = w1.cell? ⟨g, o, none⟩) (by kernel_rfl) (by kernel_rfl) (fun c a d v w h => by cases d <;> exact h) (fun _ => rfl) ?_
  repeat
    refine wpPm_read (v := ?_) (by rfl) (by rfl) (fun w' hS => ?_) (fun K hK => ?_)
    rotate_left
    · have c1 := (hS _).trans c1
      have c2 := (hS _).trans c2
      have c3 := (hS _).trans c3
      have c4 := (hS _).trans c4
      clear hS
      go_simp
      try with_reducible rfl
    go_simp
    refine hK _ ?_
    clear hK K
  show wpList _ _ _ _ _ _
  have hv := HV.out
  go_upto_region 9 with fail
  have HB1 := Lib.hid (show Below w.heap.size w w1.drew from HB.out.drew)
  clear HB HV hv c0 c1 c2 c3 c4 hr1 hl1 hl2
  generalize w1.drew = wd at HB1 ⊢
  go_wp2_with fail
  refine (HREC.out wd).mono ?_
  rintro e w2 ⟨rfl, rfl⟩
  go_wp2_with fail
  refine (HKS.out _ HB1.out).mono ?_
  rintro e w3 ⟨A, rfl, hst, ha3, hb3, _⟩
  have HA3 := Lib.hid ha3
  have HST := Lib.hid hst
  have HB3 := Lib.hid hb3
  rw [List.length_map]
  clear hst ha3 hb3 HKS HREC HAT
  go_wp2
  go_loopw [10, 11, 66] (fun o1 o2 i W => ∃ k : Nat, k ≤ rows.length ∧ i = .int .i64 k ∧ Hid (RaI w3.heap.size rows k o1 o2 w3 W)) (fun _ _ i _ => rows.length - (intOf i).toNat)
  case atStart => exact ⟨0, Nat.zero_le _, rfl, Lib.hid ⟨Below.refl _ _, rfl, World.ownsRow_nil _ _ _ _, [], World.ownsRow_nil _ _ _ _, fun i h => absurd h (Nat.not_lt_zero i)⟩⟩
  case round =>
    obtain ⟨k, hk, rfl, HI⟩ := hrel
    by_cases hlt : k < rows.length
    · obtain ⟨g1, rfl, hg1, hck⟩ := HST.out (by rw [List.length_map]; omega)
      have hck := (HI.out.bel.cell (p := ⟨g1, k, none⟩) hg1).trans (hck k (by rw [List.length_map]; exact hlt))
      rw [List.getElem_map] at hck
      have HLKk := HLK.out k hlt
      have hpos := HOK.out.pos _ (List.getElem_mem hlt)
      have hln := HLN.out _ (List.getElem_mem hlt)
      have HGT := Lib.hid (at_get (HA3.out.below HI.out.bel) (R.key nm rows[k].1) (by rw [R.key_len]; omega) (fun l hl => by rw [HLKk] at hl; injection hl with hl; subst hl; omega))
      rw [HLKk] at HGT
      have HNM := Lib.hid (fun W => number_any nm rows[k].1 W hpos.2 (by omega))
      obtain ⟨ys, ho2, hys⟩ := HI.out.vals
      have HRS := Lib.hid (fun (x v1 v2 : Value) (w5 w6 w7 : World) (O1 O2 : Obj) (hb5 : Below wr.heap.size wr w5) (hx : Slc w5 NoM x rows[k].2) a1 g1 a2 g2 => ra_step (x := x) (v1 := v1) (v2 := v2) (w5 := w5) (w6 := w6) (w7 := w7) (O1 := O1) (O2 := O2) HI.out hlt ho2 hys hb5 hx a1 g1 a2 g2)
      have HO2 := Lib.hid ho2
      have HLT := Lib.hid hlt
      clear ho2 hys HLKk hg1
      generalize rows[k] = x at hck hpos hln HGT HNM HRS
      have hx0 : ((x.1 : Int) == 0) = false := beq_eq_false_iff_ne.2 (by omega)
      have hx1 : ((x.2.length : Int) == 0) = false := beq_eq_false_iff_ne.2 (by omega)
      have hx2 : ¬ (size : Int) < (x.2.length : Nat) := by omega
      go_wp2_with fail
      refine HGT.out.mono ?_
      rintro e w4 ⟨v, rfl, hsl, _, hb4⟩
      rw [show (some x.2).getD [] = x.2 from rfl] at hsl
      obtain ⟨Av, rfl, _⟩ := hsl.shape
      have HSL := Lib.hid (hsl.weak (M' := NoM) (fun _ h => h.elim))
      have HB4 := Lib.hid hb4
      clear HGT hsl hb4
      go_wp2_with fail
      refine (HNM.out _).mono ?_
      rintro e w5 ⟨rfl, hb5⟩
      have HSL5 := Lib.hid (slc_below HSL.out hb5)
      have HB5 := Lib.hid (HB4.out.trans (hb5.mono HB4.out.size))
      have HO1 := Lib.hid (own_below HI.out.nums HB5.out)
      have hbz : w3.heap.size ≤ w5.heap.size := Nat.le_trans HI.out.bel.size HB5.out.size
      have HO25 := Lib.hid (own_below HO2.out HB5.out)
      clear hb5 HNM HSL HB4 hck
      go_wp2_with (at_builtin; refine wpList_append_own_at _ rfl _ _ 63 rfl w3.heap.size 3 i1 _ 1 8 Tryz.underlying63 hi1 hy0 hy1 hy2 rfl (by decide) _ _ _ rfl (HO1.out.alloc _) ⟨w5.heap.size, 0, none⟩ 1 1 [nmI x.1] rfl rfl (World.news_of_block (heap_alloc_new w5 _)) (by simp [Value.oneCell']) (by unfold maxLen; omega) (by omega) (Nat.le_trans hbz (alloc_below w5 _).size) ?_)
      intro v1 w6 hown1 hg6 hnil6 hloc6
      have HW1 := Lib.hid hown1
      have HG6 := Lib.hid hg6
      have HO26 := Lib.hid (own_cross (by decide : 37 ≠ 3) (HO25.out.alloc _) (HO1.out.alloc _) hg6)
      have hbz6 : w3.heap.size ≤ w6.heap.size := Nat.le_trans hbz (Nat.le_trans (alloc_below w5 (.cells #[nmI x.1] 3)).size hg6.size)
      clear hown1 hg6 hnil6 hloc6
      go_wp2_with (at_builtin; refine wpList_append_own_at _ rfl _ _ 22 rfl w3.heap.size 37 i2 _ 1 24 Tryz.underlying22 hi2 hz0 hz1 hz2 rfl (by decide) _ _ _ rfl (HO26.out.alloc _) ⟨w6.heap.size, 0, none⟩ 1 1 [.slice Av x.2.length x.2.length] rfl rfl (World.news_of_block (heap_alloc_new w6 _)) (by simp [Value.oneCell']) (by unfold maxLen; omega) (by omega) (Nat.le_trans hbz6 (alloc_below w6 _).size) ?_)
      intro v2 w7 hown2 hg7 hnil7 hloc7
      have HNX := Lib.hid (HRS.out _ _ _ _ _ _ _ _ HB5.out HSL5.out HW1.out HG6.out hown2 hg7)
      clear hown2 hg7 hnil7 hloc7 HRS HB5 HSL5 HW1 HG6 HO26 HO25 HO1 HO2
      go_wp2_with fail
      go_roundw
      case rel => exact ⟨k + 1, HLT.out, by go_num, HNX⟩
      case measure => have := HLT.out; simp [intOf]; omega
    · obtain rfl : k = rows.length := by omega
      obtain ⟨ys, ho2, hys⟩ := HI.out.vals
      have HC1 := Lib.hid (clipI_own HI.out.nums)
      have HC2 := Lib.hid (clipBs_own ho2)
      have HYS := Lib.hid hys
      have HYL := Lib.hid (show ys.length = rows.length by have := ho2.1; omega)
      clear ho2 hys
      go_wp2_with fail
      refine HC1.out.mono ?_
      rintro e w8 ⟨A8, rfl, hA8, rfl⟩
      have HA8 := Lib.hid hA8
      clear hA8
      go_wp2_with fail
      refine HC2.out.mono ?_
      rintro e w9 ⟨B9, rfl, hB9, rfl⟩
      have HB9 := Lib.hid hB9
      clear hB9
      go_wp2
      refine bodyPost_ret (results_tmp3 rfl _ _ _) rfl ?_
      refine ⟨A8, B9, rfl, ⟨fun i hi => ?_, fun i hi => ?_⟩, HB1.out.trans ((HB3.out.trans (HI.out.bel.mono HB3.out.size)).mono HB1.out.size)⟩
      · obtain ⟨g, e1, e2, e3⟩ := HA8.out i (by rw [List.length_take, List.length_map]; omega)
        refine ⟨g, e1, e2, e3.trans ?_⟩
        simp
      · obtain ⟨g, e1, e2, e3⟩ := HB9.out i (by rw [HYL.out]; exact hi)
        exact ⟨g, _, e1, e2, e3, ((HYS.out i _ hi).sl).weak (fun _ h => h)⟩
end
end Go.Proofs.YtjbepnkchoaipaaGreat
/- Law 31: lies. -/
namespace Go.Proofs.YtjbepnkchoaipaaGreat
open Go.RowKit Go.Lib Go.Maps Go.WideMaps Go.Sort
set_option maxRecDepth 100000
section
variable {w0 : World} {p u : Nat} {nm : J.B} {w : World} {s : J.St} {fs : List (Nat × Obj)} {m : R.M}
set_option maxHeartbeats 2000000 in
theorem lies_any (h : At w0 p fs s w) (hm : R.MOk u m) (hu : u ≤ 1000) (hs : s.now = m.map nm) (hnm : nm.length ≤ 3) (v : Value) (hv : Rws w NoM v m.rows) :
    Calls Tryz.prog 19 #[.pointer (some ⟨p, 0, none⟩), .string ⟨nm.toArray⟩, .bool m.there, v] w fun e w' => e = .returned (.bool true) ∧ Below w.heap.size w w' := by
  obtain ⟨Ar, cr, rfl, _, har, _⟩ := hv.slice_
  unfold R.M.map R.M.at at hs
  cases ht : m.there with
  | false =>
    rw [ht] at hs
    have HA := Lib.hid (all_none h hs hnm)
    clear h hs hv har
    go_enter Tryz.func19, Tryz.ntmps19
    go_wp2_with fail
    refine HA.out.mono ?_
    rintro e w1 ⟨rfl, hb⟩
    have HB := Lib.hid hb
    clear HA hb
    go_wp2
    go_ret
    exact ⟨rfl, HB.out⟩
  | true =>
    rw [ht] at hs
    have hmany := hm.many
    have hn : m.rows.length ≤ 1000 := by omega
    have HA := Lib.hid (all_rows h hs hm.rows hm.len hm.size.2 hn hnm)
    have HR := Lib.hid har
    clear h hs hv har ht hm
    generalize m.rows = rows at hn HA HR ⊢
    go_enter Tryz.func19, Tryz.ntmps19
    go_wp2_with fail
    refine HA.out.mono ?_
    rintro e w1 ⟨A, B, rfl, ho, hb⟩
    have HO := Lib.hid ho
    have HB := Lib.hid hb
    clear HA ho hb
    have hne : ((rows.length : Int) != (rows.length : Nat)) = false := by simp
    go_wp2
    go_loopw [12] (fun i W => ∃ k : Nat, k ≤ rows.length ∧ i = .int .i64 k ∧ Hid (Below w1.heap.size w1 W)) (fun i _ => rows.length - (intOf i).toNat)
    case atStart => exact ⟨0, Nat.zero_le _, rfl, Lib.hid (Below.refl _ _)⟩
    case round =>
      obtain ⟨k, hk, rfl, HI⟩ := hrel
      by_cases hlt : k < rows.length
      · obtain ⟨ga, rfl, hga, hca⟩ := HO.out.num k hlt
        obtain ⟨gb, vb, rfl, hgb, hcb, hsb⟩ := HO.out.val k hlt
        obtain ⟨Ab, cb, rfl, _, hby⟩ := hsb.by
        obtain ⟨gr, rfl, hgr, hcr⟩ := HR.out (by omega)
        obtain ⟨c0, c1⟩ := rwCells_get rows k hlt
        have hr0 := (HB.out.cell (p := ⟨gr, k * 2, none⟩) hgr).trans (hcr _ _ c0)
        have hr1 : w1.cell? ⟨gr, k * 2 + 1, none⟩ = some (.string ⟨rows[k].2.toArray⟩) := (HB.out.cell (p := ⟨gr, k * 2 + 1, none⟩) hgr).trans (hcr _ _ c1)
        have hgr1 := Nat.lt_of_lt_of_le hgr HB.out.size
        have HBY := Lib.hid hby
        have HLT := Lib.hid hlt
        have HCA := Lib.hid (fun (w' : World) (hS : Below w1.heap.size w1 w') => And.intro ((hS.cell (p := ⟨ga, k, none⟩) hga).trans hca) (And.intro ((hS.cell (p := ⟨gb, k, none⟩) hgb).trans hcb) (And.intro ((hS.cell (p := ⟨gr, k * 2, none⟩) hgr1).trans hr0) ((hS.cell (p := ⟨gr, k * 2 + 1, none⟩) hgr1).trans hr1))))
        clear hca hcb hsb hby hcr c0 c1 hr0 hr1 hga hgb hgr hgr1
        generalize rows[k] = x at HBY HCA ⊢
        go_upto_region 9 with fail
        refine wp_region_pe (.rd 0 (.rd 1 (.rd 2 (.rd 3 (.rd 4 (.rd 5 (.rd 6 (.rd 7 (.rd 8 (.rd 9 (.rd 10 (.rd 11 (.rd 12 (.rd 13 (.rd 14 (.rd 15 (.rd 16 (.rd 17 (.rd 18 (.rd 19 (.rd 20 (.rd 21 (.rd 22 .fin))))))))))))))))))))))) (fun w' => Below w1.heap.size w1 w') (by kernel_rfl) (by kernel_rfl) (fun c a d v w h => by cases d <;> exact h) HI.out.drew ?_
        repeat
          refine wpPm_read (v := ?_) (by rfl) (by rfl) (fun w' hS => ?_) (fun K hK => ?_)
          rotate_left
          · obtain ⟨d1, d2, d3, d4⟩ := HCA.out w' hS
            have hcv := run_str_by (c := cb) (HBY.out.below hS)
            clear hS
            go_simp
            try with_reducible rfl
          go_simp
          refine hK _ ?_
          clear hK K
        show wpList _ _ _ _ _ _
        have HI2 := Lib.hid (show Below w1.heap.size w1 wr.drew from HI.out.drew)
        clear HCA HBY HI
        go_wp2_with fail
        go_roundw
        case rel => exact ⟨k + 1, HLT.out, by go_num, HI2⟩
        case measure => have := HLT.out; simp [intOf]; omega
      · obtain rfl : k = rows.length := by omega
        go_wp2
        go_ret
        exact ⟨rfl, HB.out.trans (HI.out.mono HB.out.size)⟩
end
end Go.Proofs.YtjbepnkchoaipaaGreat
/- Law 31: made. -/
namespace Go.Proofs.YtjbepnkchoaipaaGreat
open Go.RowKit Go.Lib Go.Maps Go.WideMaps Go.Sort
set_option maxRecDepth 100000
abbrev m0 (rel : Bool) (sz : Nat) : R.M := ⟨rel, 1 + sz % 6, false, [], 0, 0, 0⟩
set_option maxHeartbeats 1000000 in
theorem made_any (rel : Bool) (sz : Nat) (hsz : sz < 256) (A : Option Addr) (n c : Nat) (w : World) :
    Calls Tryz.prog 16 #[.agg #[.bool rel, .int .u8 sz, .slice A n c]] w fun e w' => ∃ w1, Below w.heap.size w w1 ∧ ∃ p pf q, e = .returned (.tuple #[.pointer (some ⟨p, 0, none⟩), .pointer (some ⟨pf, 0, none⟩), .pointer (some ⟨q, 0, none⟩)]) ∧
      D3 w1 p pf [102] 0 q [] (m0 rel sz) (m0 rel sz) [[]] (.slice none 0 0) [] w' := by
  have r6 : (sz : Int).tmod 6 = ((sz % 6 : Nat) : Int) := rfl
  have hd : sz % 6 < 6 := Nat.mod_lt _ (by decide)
  unfold m0
  generalize sz % 6 = d at r6 hd ⊢
  obtain ⟨S, hS⟩ : ∃ S, S = 1 + d := ⟨_, rfl⟩
  have hSI : (1 : Int) + (d : Int) = (S : Int) := by omega
  have hS1 : 1 ≤ S ∧ S ≤ 6 := by omega
  rw [← hS]
  have HSI := Lib.hid hSI
  clear hS hSI
  have hbox := heap_alloc_new w (.cells #[.bool rel, .int .u8 sz, .slice A n c] 46)
  have hcb := fun j => cell_of_row _ w.heap.size j _ _ _ hbox
  have HB0 := Lib.hid ((Below.refl w.heap.size w).alloc (Nat.le_refl _) (.cells #[.bool rel, .int .u8 sz, .slice A n c] 46))
  have hbl : w.heap.size < (w.alloc (.cells #[.bool rel, .int .u8 sz, .slice A n c] 46)).heap.size := by simp
  generalize hw1 : w.alloc (.cells #[.bool rel, .int .u8 sz, .slice A n c] 46) = w1 at hcb HB0 hbl
  have HN := Lib.hid (at_new w1 w1 (Below.refl _ _))
  have HBL := Lib.hid hbl
  clear hbox hbl
  go_enter Tryz.func16, Tryz.ntmps16
  go_upto_region 1 with fail
  clear hw1
  go_wp2_with fail
  refine HN.out.mono ?_
  rintro e w2 ⟨p, rfl, ha⟩
  have hcb2 : ∀ j, w2.cell? ⟨w.heap.size, j, none⟩ = (#[.bool rel, .int .u8 sz, .slice A n c] : Array Value)[j]? := fun j => (ha.bel.cell (p := ⟨w.heap.size, j, none⟩) HBL.out).trans (hcb j)
  have HA := Lib.hid (ha.more (mdO ⟨rel, S, false, [], 0, 0, 0⟩ (.slice none 0 0)))
  have hbx2 := heap_alloc_new w2 (mdO ⟨rel, S, false, [], 0, 0, 0⟩ (.slice none 0 0))
  have HSZ := Lib.hid ha.bel.size
  have HCB := Lib.hid hcb
  clear ha hcb HN
  go_upto_region 3 with fail
  rw [HSI.out]
  have hq2 := fun j => cell_of_row _ w2.heap.size j _ _ _ hbx2
  have hcb3 : ∀ j, (w2.alloc (mdO ⟨rel, S, false, [], 0, 0, 0⟩ (.slice none 0 0))).cell? ⟨w.heap.size, j, none⟩ = (#[.bool rel, .int .u8 sz, .slice A n c] : Array Value)[j]? := fun j => (((Below.refl _ w2).alloc (Nat.le_refl _) _).cell (p := ⟨w.heap.size, j, none⟩) (Nat.lt_of_lt_of_le HBL.out HSZ.out)).trans (hcb2 j)
  refine wp_region_pm 13 (.rd 0 (.rd 1 (.rd 2 (.rd 3 (.rd 4 (.rd 5 (.rd 6 (.rd 7 (.wr 8 (.rd 9 (.rd 10 (.rd 11 (.wr 12 .fin))))))))))))) (fun w' => (∀ j, w'.cell? ⟨w.heap.size, j, none⟩ = (#[.bool rel, .int .u8 sz, .slice A n c] : Array Value)[j]?) ∧ w'.heap[w2.heap.size]? = some (mdO ⟨rel, S, false, [], 0, 0, 0⟩ (.slice none 0 0))) (by kernel_rfl) (by kernel_rfl) (fun c a d v w h => by cases d <;> exact h) ⟨hcb3, hbx2⟩ ?_
  have HAD := Lib.hid (HA.out.below ((Below.refl _ _).drew))
  clear hcb2 hcb3 hbx2 hq2 HA HSI
  generalize (w2.alloc (mdO ⟨rel, S, false, [], 0, 0, 0⟩ (.slice none 0 0))).drew = w3 at HAD ⊢
  repeat
    refine wpPm_read (v := ?_) (by rfl) (by rfl) (fun w' hS => ?_) (fun K hK => ?_)
    rotate_left
    · have hc1 := hS.1
      have hc2 := fun j => cell_of_row w' w2.heap.size j _ _ _ hS.2
      clear hS
      go_simp
      try with_reducible rfl
    go_simp
    refine hK _ ?_
    clear hK K
  refine wpPm_write (by rfl) (fun K hK => ?_)
  go_simp
  refine (new_file HAD.out [102] rel S (by decide) (by decide) (by decide) hS1.1 (by omega)).mono ?_
  rintro e w4 ⟨rfl, ha4⟩
  have HA4 := Lib.hid ha4
  have hb4 : ∀ j, w4.cell? ⟨w.heap.size, j, none⟩ = (#[.bool rel, .int .u8 sz, .slice A n c] : Array Value)[j]? := fun j => (ha4.bel.cell (p := ⟨w.heap.size, j, none⟩) HBL.out).trans (HCB.out j)
  have hr4 : w4.heap[w2.heap.size]? = some (mdO ⟨rel, S, false, [], 0, 0, 0⟩ (.slice none 0 0)) := ha4.get (List.mem_cons_of_mem _ List.mem_cons_self)
  refine hK.out _ _ (fun w' => (∀ j, w'.cell? ⟨w.heap.size, j, none⟩ = (#[.bool rel, .int .u8 sz, .slice A n c] : Array Value)[j]?) ∧ w'.heap[w2.heap.size]? = some (mdO ⟨rel, S, false, [], 0, 0, 0⟩ (.slice none 0 0))) (fun _ h => h) ⟨hb4, hr4⟩ ?_
  clear hK K
  repeat
    refine wpPm_read (v := ?_) (by rfl) (by rfl) (fun w' hS => ?_) (fun K hK => ?_)
    rotate_left
    · clear hS
      go_simp
      try with_reducible rfl
    go_simp
    refine hK _ ?_
    clear hK K
  refine wpPm_write (by rfl) (fun K hK => ?_)
  go_simp
  refine hK.out _ _ (fun w' => (∀ j, w'.cell? ⟨w.heap.size, j, none⟩ = (#[.bool rel, .int .u8 sz, .slice A n c] : Array Value)[j]?) ∧ w'.heap[w2.heap.size]? = some (mdO ⟨rel, S, false, [], 0, 0, 0⟩ (.slice none 0 0))) (fun _ h => h) ⟨hb4, hr4⟩ ?_
  clear hK K hb4 hr4 ha4
  have HLT := Lib.hid (Array.getElem?_eq_some_iff.1 (HAD.out.get (List.mem_cons_self : (w2.heap.size, _) ∈ _))).1
  clear HAD
  show wpList _ _ _ _ _ _
  go_wp2
  refine bodyPost_ret (results_tmp3 rfl _ _ _) rfl ?_
  refine ⟨w1, HB0.out, _, _, _, rfl, ⟨J.new, HA4.out.less (fun x hx => hx), R.kp_new [102] rel S ⟨hS1.1, by omega⟩, fun x hx => ?_, by decide⟩, .inl ⟨rfl, rfl, rfl⟩, fun x hx => by cases hx⟩
  simp only [List.append_nil, List.mem_singleton] at hx
  subst hx
  have := HLT.out
  show w2.heap.size ≠ w3.heap.size + 1
  have : w2.heap.size < w3.heap.size := this
  omega
end Go.Proofs.YtjbepnkchoaipaaGreat
