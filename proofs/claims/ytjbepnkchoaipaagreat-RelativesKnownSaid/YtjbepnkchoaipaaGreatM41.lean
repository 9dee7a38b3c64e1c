import Derived.Test.YtjbepnkchoaipaaGreatM38
import Derived.Test.YtjbepnkchoaipaaGreatM34
import Derived.Test.YtjbepnkchoaipaaGreatM40
import Derived.Test.YtjbepnkchoaipaaGreatM37
set_option linter.unusedVariables false
set_option linter.unusedSimpArgs false
/- Law 31: what Next, Append, Start and Open do, said in the law's model. -/
namespace Go.Proofs.YtjbepnkchoaipaaGreat
open Go.RowKit Go.Lib Go.Maps Go.WideMaps Go.Sort
set_option maxRecDepth 100000
namespace R
/-- The numbers of records. -/
def nmOf (r : Nat × B) : Nm := ⟨r.1 % 65537, Nat.mod_lt _ (by decide)⟩
def nsOf (rows : Rows) : List Nm := rows.map nmOf
theorem nm_val {r : Nat × B} (h : r.1 ≤ 65536) : (nmOf r).val = r.1 := by show r.1 % 65537 = r.1; omega
theorem ns_find (f : Nat → Bool) : ∀ (rows : Rows), (∀ r ∈ rows, r.1 ≤ 65536) → (nsOf rows).find? (fun x => f x.val) = (rows.find? (fun r => f r.1)).map nmOf
  | [], _ => rfl
  | r :: t, h => by
    have ih := ns_find f t (fun x hx => h x (List.mem_cons_of_mem _ hx))
    show (nmOf r :: nsOf t).find? _ = _
    rw [List.find?_cons, List.find?_cons, nm_val (h r List.mem_cons_self)]
    cases f r.1 with
    | true => rfl
    | false => exact ih
theorem ns_rev (rows : Rows) : (nsOf rows).reverse = nsOf rows.reverse := by unfold nsOf; rw [List.map_reverse]
theorem ns_nOf {rows : Rows} (h : ∀ r ∈ rows, r.1 ≤ 65536) : nOf (nsOf rows) = lastN rows + 1 := by
  unfold nOf lastN nsOf
  rw [List.getLast?_map]
  cases hl : rows.getLast? with
  | none => rfl
  | some r =>
    show (nmOf r).val + 1 = r.1 + 1
    rw [nm_val (h r (List.mem_of_getLast? hl))]
theorem ns_stN {rows : Rows} (h : ∀ r ∈ rows, r.1 ≤ 65536) (r : Nat) (k : Int) : stN r k (nsOf rows) = pos r k rows := by
  have hv : ∀ (o : Option (Nat × B)), (∀ x, o = some x → x.1 ≤ 65536) → (match o.map nmOf with | some x => x.val | none => 0) = (match o with | some x => x.1 | none => 0) := fun o ho => by
    cases o with
    | none => rfl
    | some x => exact nm_val (ho x rfl)
  unfold stN pos
  by_cases hr : r = 3 ∨ r = 4
  · rw [if_pos hr, if_pos hr, ns_rev, ns_find (fun n => holds r n k) rows.reverse (fun x hx => h x (List.mem_reverse.1 hx))]
    exact hv _ (fun x hx => h x (List.mem_reverse.1 (List.mem_of_find?_eq_some hx)))
  · rw [if_neg hr, if_neg hr, ns_find (fun n => holds r n k) rows h]
    exact hv _ (fun x hx => h x (List.mem_of_find?_eq_some hx))
theorem ns_keys {u : Nat} {nm : B} {m : M} (h : MOk u m) : keysOf (m.map nm) ⟨(recs nm).toArray⟩ = (nsOf m.rows).map fun x => key nm x.val := by
  unfold M.map M.at
  cases ht : m.there with
  | false => rw [(h.none ht).1]; exact keys_none nm _ []
  | true =>
    have := keys_recs nm (attr m.rel m.size) m.rows
    show keysOf (fmap nm (some (attr m.rel m.size)) m.rows) _ = _
    rw [this]
    unfold nsOf
    rw [List.map_map]
    refine List.map_congr_left fun r hr => ?_
    show key nm r.1 = key nm (nmOf r).val
    rw [nm_val (h.rows.pos r hr).2]
theorem ns_pos {u : Nat} {m : M} (h : MOk u m) : ∀ x ∈ nsOf m.rows, 1 ≤ x.val := by
  intro x hx
  obtain ⟨r, hr, rfl⟩ := List.mem_map.1 hx
  rw [nm_val (h.rows.pos r hr).2]
  exact (h.rows.pos r hr).1
theorem map_fst {u : Nat} {nm : B} {m : M} (h : MOk u m) : keysOf (m.map nm) ⟨(nm ++ [0]).toArray⟩ = (m.map nm).map (·.1) := by
  unfold M.map M.at
  cases ht : m.there with
  | false => rw [(h.none ht).1]; exact keys_none nm _ []
  | true =>
    show keysOf (fmap nm (some (attr m.rel m.size)) m.rows) _ = (fmap nm (some (attr m.rel m.size)) m.rows).map (·.1)
    rw [keys_all]
    show _ = own nm :: (m.rows.map (rowOf nm)).map (·.1)
    rw [List.map_map]; rfl
theorem map_klen {nm : B} (hn : nm.length ≤ 3) (m : M) : ∀ k ∈ (m.map nm).map (·.1), k.length ≤ 9 := by
  intro k hk
  unfold M.map M.at at hk
  cases ht : m.there with
  | false => rw [ht] at hk; cases hk
  | true =>
    rw [ht] at hk
    have hk : k ∈ own nm :: (m.rows.map (rowOf nm)).map (·.1) := hk
    rcases List.mem_cons.1 hk with rfl | hk
    · rw [own_len]; omega
    · obtain ⟨p, hp, rfl⟩ := List.mem_map.1 hk
      obtain ⟨r, _, rfl⟩ := List.mem_map.1 hp
      show (key nm r.1).length ≤ 9
      rw [key_len]; omega
theorem look_own_map (nm : B) (m : M) : J.look (m.map nm) (own nm) = m.at := by
  unfold M.map M.at
  cases m.there with
  | true => exact look_own nm _ _
  | false => rfl
theorem Kp.idle {nm : B} {u : Nat} {m : M} {L : List (List (B × B))} {s : J.St} (h : Kp nm u m L s) : Kp nm u m L (J.abandon (J.begin_ s)) := by
  have hs := h.sto
  have hi := (J.inv_abandon (J.inv_begin hs.inv hs.opn).1 rfl).1
  refine ⟨h.mok, ⟨rfl, hs.ar, hs.now, hs.base, hi, hs.wr, hs.h0, hs.h1, hs.sum, hs.log, hs.a0, hs.cm, hs.cu, hs.many⟩, h.hist.same rfl rfl rfl ?_, h.len⟩
  unfold J.St.com
  rw [hs.opn]; rfl
end R
section
variable {w0 : World} {p pf : Nat} {nm : J.B} {u : Nat} {fs : List (Nat × Obj)} {m m' : R.M} {L : List (List (J.B × J.B))} {w w' : World} {s s1 : J.St}
theorem kp_rows (hk : R.Kp nm u m L s) : ∀ r ∈ m.rows, r.1 ≤ 65536 := fun r hr => (hk.mok.rows.pos r hr).2
/-- Next, raw: what it turns. -/
theorem k_next (h : K w0 p pf nm u fs m L w) (hu : u ≤ 340) :
    Calls Tryz.prog 13 #[.pointer (some ⟨pf, 0, none⟩)] w fun e w' => ∃ v, e = .returned (.tuple #[v, .int .i64 ((m.nextR.2.1.map (·.1)).getD 0 : Nat), .string ⟨m.nextR.2.2.toArray⟩]) ∧ Slc w' (· < w.heap.size) v ((m.nextR.2.1.map (·.2)).getD []) ∧ w.grownBy w' (some pf) ∧ w'.heap[pf]? = some (fileO p nm m.nextR.1.rel m.nextR.1.size m.nextR.1.mode m.nextR.1.next m.nextR.1.last) := by
  obtain ⟨s, ha, hk, hf, hnm⟩ := h
  have h0 := ha.get List.mem_cons_self
  unfold R.M.nextR
  by_cases hs : chk [52, 55] false 1 3 m.rel m.mode = R.good
  · rw [if_neg (Decidable.not_not.2 hs)]
    by_cases hn : m.next = 0
    · rw [if_pos hn]
      have h0' := h0
      rw [hn] at h0'
      refine (next_lost h0' hs).mono ?_
      rintro e w1 ⟨rfl, hg, hr⟩
      exact ⟨_, rfl, Slc.nil_, hg, by show w1.heap[pf]? = some (fileO p nm m.rel m.size m.mode m.next 0); rw [hn]; exact hr⟩
    · rw [if_neg hn]
      have hmany := hk.sto.many
      have hnow := hk.sto.now
      have hcu := hk.sto.cu
      have hx := next_read (R.nsOf m.rows) ha List.mem_cons_self (by omega) (by omega) (by rw [hnow]; exact R.ns_keys hk.mok) (R.ns_pos hk.mok) (fun n l e => by have := hk.sto.len e; omega) (by omega) hs
      rw [R.ns_find (fun n => decide (m.next ≤ n)) m.rows (kp_rows hk)] at hx
      refine (callsIn_wide.1 hx).mono ?_
      intro e w1 hr
      cases hfd : m.rows.find? (fun r => decide (m.next ≤ r.1)) with
      | none =>
        rw [hfd] at hr
        obtain ⟨rfl, hg, hr⟩ := hr
        exact ⟨_, rfl, Slc.nil_, hg, hr⟩
      | some r =>
        rw [hfd] at hr
        obtain ⟨v, rfl, hs, hg, hr⟩ := hr
        have hm := List.mem_of_find?_eq_some hfd
        have hv : (R.nmOf r).val = r.1 := R.nm_val (kp_rows hk r hm)
        rw [hv] at hs hr ⊢
        have hlk : (J.look s.now (R.key nm r.1)).getD [] = r.2 := by
          rw [kp_look hk (by have := kp_rows hk r hm; omega), R.look_of_mem hk.mok.rows hm]; rfl
        rw [hlk] at hs
        exact ⟨v, rfl, hs, hg, hr⟩
  · rw [if_pos hs]
    refine (next_shut h0 hs).mono ?_
    rintro e w1 ⟨rfl, hb⟩
    exact ⟨_, rfl, Slc.nil_, grown_of_below hb pf, (hb.block pf (Array.getElem?_eq_some_iff.1 h0).1).trans h0⟩
theorem k_next_at (h : K w0 p pf nm u fs m L w) {W : World} (hg : w.grownBy W (some pf)) (hr : W.heap[pf]? = some (fileO p nm m.nextR.1.rel m.nextR.1.size m.nextR.1.mode m.nextR.1.next m.nextR.1.last)) : KR w0 p pf nm u fs m.nextR.1 L W := by
  obtain ⟨s, ha, hk, hf, hnm⟩ := h
  have hm := R.ok_next hk.mok
  have e : m.nextR.1.rel = m.rel ∧ m.nextR.1.size = m.size ∧ m.nextR.1.map nm = m.map nm := by
    unfold R.M.nextR
    split
    · exact ⟨rfl, rfl, rfl⟩
    · split
      · exact ⟨rfl, rfl, rfl⟩
      · split <;> exact ⟨rfl, rfl, rfl⟩
  refine K.same ?_ hk hf hnm hm e.2.2
  rw [e.1, e.2.1] at hr ⊢
  exact file_at ha hf hk.sto.two hg hr
end
end Go.Proofs.YtjbepnkchoaipaaGreat
/- Law 31: Append, Start and Open in the law's model. -/
namespace Go.Proofs.YtjbepnkchoaipaaGreat
open Go.RowKit Go.Lib Go.Maps Go.WideMaps Go.Sort
set_option maxRecDepth 100000
section
variable {w0 : World} {p pf : Nat} {nm : J.B} {u : Nat} {fs : List (Nat × Obj)} {m m' : R.M} {L : List (List (J.B × J.B))} {w w' : World} {s s1 : J.St}
theorem k_append (h : K w0 p pf nm u fs m L w) (hu : u ≤ 340) (v : Value) (b : J.B) (hv : Src w0 p fs v b) :
    Calls Tryz.prog 12 #[.pointer (some ⟨pf, 0, none⟩), v] w fun e w' => e = .returned (.tuple #[.int .i64 ((m.append b).2.1 : Nat), .string ⟨(m.append b).2.2.toArray⟩]) ∧ KR w0 p pf nm u fs (m.append b).1 L w' := by
  obtain ⟨s, ha, hk, hf, hnm⟩ := h
  have hm := R.ok_append hk.mok b
  have h0 := ha.get List.mem_cons_self
  obtain ⟨A, c, rfl⟩ := hv.slice ha (fun x hx => List.mem_cons_of_mem _ hx)
  have hmany := hk.sto.many
  revert hm
  unfold R.M.append
  by_cases hs : chk [52, 56] false 2 4 m.rel m.mode = R.good
  · rw [if_neg (Decidable.not_not.2 hs)]
    by_cases hb : 0 < b.length ∧ b.length ≤ m.size
    · rw [if_neg (Decidable.not_not.2 hb)]
      have hno := R.ns_nOf (kp_rows hk)
      have ht := R.there_of_mode hk.mok (Decidable.not_not.2 hs) (by decide)
      by_cases hr : 65536 < R.lastN m.rows + 1
      · rw [if_pos hr]
        intro hm
        exact callsIn_wide.1 (append_go (s2 := s) (R.nsOf m.rows) ha hf hk.sto.two A _ c hb (by omega) (by omega) (by rw [hk.sto.now]; exact R.ns_keys hk.mok) (R.ns_pos hk.mok) hs _ hk.sto.two
          (fun _ w' h => ⟨rfl, K.same (m' := { m with last := 0 }) h hk hf hnm hm rfl⟩)
          (fun hn => absurd hr (by rw [← hno]; exact Nat.not_lt.2 hn))
          (fun hn => absurd hr (by rw [← hno]; exact Nat.not_lt.2 hn)))
      · rw [if_neg hr]
        intro hm
        have h1 : 1 ≤ R.lastN m.rows + 1 := by omega
        obtain ⟨s1, hadd, hx⟩ := hk.put hu hnm ht h1 (Nat.le_of_not_lt hr) hb
        have hsz := hk.mok.size
        exact callsIn_wide.1 (append_go (s2 := J.committed s1) (R.nsOf m.rows) ha hf hk.sto.two A _ c hb (by omega) (by omega) (by rw [hk.sto.now]; exact R.ns_keys hk.mok) (R.ns_pos hk.mok) hs _ hx.sto.two
          (fun hn => absurd hn (by rw [hno]; exact hr))
          (fun _ gs w1 hg h1 => by
            rw [hno]
            exact fput_any h1 List.mem_cons_self hk.sto.opn _ A _ c b (by omega) (by omega) (fun gs' t w2 hg2 => hv gs' t w2 (fun x hx => hg2 x (List.mem_cons_of_mem _ (hg x hx)))) (by omega) hadd (tx_commit_any hx))
          (fun _ w' h => by
            rw [hno]
            exact ⟨rfl, K.tx (m' := { m with last := 0, rows := R.put m.rows (R.lastN m.rows + 1) b }) h hk hf hnm hm hx⟩))
    · rw [if_pos hb]
      intro hm
      refine (append_long ha hf hk.sto.two A _ c hb hs).mono ?_
      rintro e w1 ⟨rfl, h1⟩
      exact ⟨rfl, K.same (m' := { m with last := 0 }) h1 hk hf hnm hm rfl⟩
  · rw [if_pos hs]
    intro hm
    refine (append_shut h0 A _ c hs).mono ?_
    rintro e w1 ⟨rfl, rfl⟩
    exact ⟨rfl, K.same ha hk hf hnm hm rfl⟩
theorem k_start (h : K w0 p pf nm u fs m L w) (hu : u ≤ 340) (r : Nat) (k : Int) (hr : r ≤ 5) :
    Calls Tryz.prog 27 #[.pointer (some ⟨pf, 0, none⟩), .int .u8 (r : Nat), .int .i64 k] w fun e w' => e = .returned (.string ⟨(m.start r k).2.toArray⟩) ∧ KR w0 p pf nm u fs (m.start r k).1 L w' := by
  obtain ⟨s, ha, hk, hf, hnm⟩ := h
  have hm := R.ok_start hk.mok r k
  have h0 := ha.get List.mem_cons_self
  have hmany := hk.sto.many
  revert hm
  unfold R.M.start
  by_cases hs : chk [52, 55] true 1 3 m.rel m.mode = R.good
  · rw [if_neg (Decidable.not_not.2 hs)]
    intro hm
    have hst := R.ns_stN (kp_rows hk) r k
    refine callsIn_wide.1 (start_go (R.nsOf m.rows) ha hf hk.sto.two r k hr (by omega) (by omega) (by rw [hk.sto.now]; exact R.ns_keys hk.mok) (R.ns_pos hk.mok) hs _ (fun W hg hr => ?_))
    rw [hst] at hr ⊢
    exact ⟨rfl, K.same (m' := { m with next := R.pos r k m.rows, last := 0 }) (file_at ha hf hk.sto.two hg hr) hk hf hnm hm rfl⟩
  · rw [if_pos hs]
    intro hm
    refine (start_shut h0 r k hs).mono ?_
    rintro e w1 ⟨rfl, hb⟩
    exact ⟨rfl, K.same (ha.below hb) hk hf hnm hm rfl⟩
theorem k_open (h : K w0 p pf nm u fs m L w) (hu : u ≤ 340) (md : Nat) :
    Calls Tryz.prog 10 #[.pointer (some ⟨pf, 0, none⟩), .int .u8 (md : Nat)] w fun e w' => e = .returned (.string ⟨(m.open md).2.toArray⟩) ∧ KR w0 p pf nm u fs (m.open md).1 L w' := by
  obtain ⟨s, ha, hk, hf, hnm⟩ := h
  have hm := R.ok_open hk.mok md
  have h0 := ha.get List.mem_cons_self
  have hki := hk.idle
  have hsz := hk.mok.size
  revert hm
  unfold R.M.open
  by_cases h1 : md < 1 ∨ 4 < md
  · rw [if_pos h1]
    intro hm
    refine (open_mode ha hf md h1).mono ?_
    rintro e w1 ⟨rfl, h1⟩
    exact ⟨rfl, K.same h1 hk hf hnm hm rfl⟩
  · rw [if_neg h1]
    by_cases h2 : m.mode = 0
    · rw [if_neg (Decidable.not_not.2 h2)]
      have ha0 := ha
      rw [h2] at ha0
      have hlk : J.look s.now (R.own nm) = m.at := by rw [hk.sto.now]; exact R.look_own_map nm m
      unfold R.M.at at hlk
      by_cases h3 : md = 2
      · subst h3
        rw [if_neg (fun h => h.1 rfl)]
        intro hm
        have hke : keysOf (J.abandon (J.begin_ s)).now ⟨(nm ++ [0]).toArray⟩ = (J.abandon (J.begin_ s)).now.map (·.1) := by rw [hki.sto.now]; exact R.map_fst hk.mok
        have hkl : ∀ k ∈ (J.abandon (J.begin_ s)).now.map (·.1), k.length ≤ 9 := by rw [hki.sto.now]; exact R.map_klen hnm m
        have htx := open_tx hki.sto hu hkl hnm (R.attr m.rel m.size) rfl
        cases ht : m.there with
        | true =>
          rw [ht] at hlk
          refine (open_new1 ha0 hf hk.sto.opn hk.sto.two hu hki.sto (by omega) hke hkl hnm hlk).mono ?_
          rintro e w1 ⟨rfl, h1⟩
          exact ⟨rfl, K.tx (m' := { m with there := true, rows := [], mode := 2, next := 1, last := 0 }) h1 hki hf hnm hm htx⟩
        | false =>
          rw [ht] at hlk
          refine (open_new0 ha0 hf hk.sto.opn hk.sto.two hu hki.sto (by omega) hke hkl hnm hlk).mono ?_
          rintro e w1 ⟨rfl, h1⟩
          exact ⟨rfl, K.tx (m' := { m with there := true, rows := [], mode := 2, next := 1, last := 0 }) h1 hki hf hnm hm htx⟩
      · cases ht : m.there with
        | true =>
          rw [ht] at hlk
          rw [if_neg (fun h => by cases h.2)]
          intro hm
          refine (open_there ha0 hf hk.sto.opn hk.sto.two md (by omega) (by omega) h3 hnm (by omega) hlk).mono ?_
          rintro e w1 ⟨rfl, h1⟩
          refine ⟨rfl, K.same (m' := { m with there := true, rows := if md = 2 then [] else m.rows, mode := md, next := 1, last := 0 }) h1 hki hf hnm hm ?_⟩
          unfold R.M.map R.M.at
          dsimp only
          rw [ht, if_neg h3]
        | false =>
          rw [ht] at hlk
          rw [if_pos ⟨h3, rfl⟩]
          intro hm
          refine (open_missing ha0 hf hk.sto.opn hk.sto.two md (by omega) (by omega) h3 hnm hlk).mono ?_
          rintro e w1 ⟨rfl, h1⟩
          rw [← h2] at h1
          exact ⟨rfl, K.same h1 hki hf hnm hm rfl⟩
    · rw [if_pos h2]
      intro hm
      refine (open_already ha hf hk.sto.opn md (by omega) (by omega) h2).mono ?_
      rintro e w1 ⟨rfl, h1⟩
      exact ⟨rfl, K.same h1 hki hf hnm hm rfl⟩
end
end Go.Proofs.YtjbepnkchoaipaaGreat
/- Law 31: the operations of a file whose model is known. -/
namespace Go.Proofs.YtjbepnkchoaipaaGreat
open Go.RowKit Go.Lib Go.Maps Go.WideMaps Go.Sort
set_option maxRecDepth 100000
section
variable {w0 : World} {p pf : Nat} {nm : J.B} {u : Nat} {fs : List (Nat × Obj)} {m m' : R.M} {w w' : World}
/-- A file of the model, whatever has been committed. -/
def KX (w0 : World) (p pf : Nat) (nm : J.B) (u : Nat) (fs : List (Nat × Obj)) (m : R.M) (w : World) : Prop := ∃ L, K w0 p pf nm u fs m L w
theorem kx_of {L : List (List (J.B × J.B))} (h : K w0 p pf nm u fs m L w) : KX w0 p pf nm u fs m w := ⟨L, h⟩
theorem KR.kx {L : List (List (J.B × J.B))} (h : KR w0 p pf nm u fs m L w) : KX w0 p pf nm (u + 1) fs m w := by
  obtain ⟨L', _, h⟩ := h
  exact ⟨L', h⟩
theorem KX.bel (h : KX w0 p pf nm u fs m w) : Below w0.heap.size w0 w := by
  obtain ⟨L, s, h, _⟩ := h
  exact h.bel
theorem KX.below (h : KX w0 p pf nm u fs m w) (hb : Below w.heap.size w w') : KX w0 p pf nm u fs m w' := by
  obtain ⟨L, h⟩ := h
  exact ⟨L, h.below hb⟩
theorem K.more {L : List (List (J.B × J.B))} (h : K w0 p pf nm u fs m L w) (o : Obj) : K w0 p pf nm u ((w.heap.size, o) :: fs) m L (w.alloc o) := by
  obtain ⟨s, h1, h2, h3, h4⟩ := h
  have hl := (Array.getElem?_eq_some_iff.1 (h1.get List.mem_cons_self)).1
  refine ⟨s, (h1.more o).less (fun x hx => ?_), h2, fun x hx => ?_, h4⟩
  · rcases List.mem_cons.1 hx with rfl | hx
    · exact List.mem_cons_of_mem _ List.mem_cons_self
    · rcases List.mem_cons.1 hx with rfl | hx
      · exact List.mem_cons_self
      · exact List.mem_cons_of_mem _ (List.mem_cons_of_mem _ hx)
  · rcases List.mem_cons.1 hx with rfl | hx
    · show w.heap.size ≠ pf
      have : pf < w.heap.size := hl
      omega
    · exact h3 x hx
theorem K.fewer {L : List (List (J.B × J.B))} {gs : List (Nat × Obj)} (h : K w0 p pf nm u fs m L w) (hg : ∀ x ∈ gs, x ∈ fs) : K w0 p pf nm u gs m L w := by
  obtain ⟨s, h1, h2, h3, h4⟩ := h
  refine ⟨s, h1.less (fun x hx => ?_), h2, fun x hx => h3 x (hg x hx), h4⟩
  rcases List.mem_cons.1 hx with rfl | hx
  · exact List.mem_cons_self
  · exact List.mem_cons_of_mem _ (hg x hx)
theorem KX.fewer {gs : List (Nat × Obj)} (h : KX w0 p pf nm u fs m w) (hg : ∀ x ∈ gs, x ∈ fs) : KX w0 p pf nm u gs m w := by
  obtain ⟨L, h⟩ := h
  exact ⟨L, h.fewer hg⟩
/-- A block of bytes that is new. -/
theorem src_row {g : Nat} {b : J.B} {o : Nat × Nat} {c : Nat} (h : (g, Obj.cells (u8s b).toArray 5 o) ∈ fs) (hb : b ≠ []) (hc : b.length ≤ c) : Src w0 p fs (.slice (some ⟨g, 0, none⟩) b.length c) b := by
  intro gs t w1 hg ha
  have hr := ha.get (hg _ h)
  have hl := (Array.getElem?_eq_some_iff.1 hr).1
  have hl : g < w1.heap.size := hl
  refine .inr ⟨g, 0, c, rfl, hc, hl, rfl, fun _ => ⟨g, 0, rfl, hl, fun h => h, fun j hj => ?_⟩⟩
  rw [cell_of_row w1 g (0 + j) _ _ _ hr, Nat.zero_add]
  unfold u8s
  simp [hj]
theorem lit_src (b : J.B) (hb : b ≠ []) (C : Array Value) (hC : C = (u8s b).toArray) (o : Nat × Nat) (g : Nat) : Src w0 p [(g, Obj.cells C 5 o)] (.slice (some ⟨g, 0, none⟩) b.length b.length) b := by
  subst hC
  exact src_row List.mem_cons_self hb (Nat.le_refl _)
theorem no_mem {x : Nat × Obj} (h : x ∈ ([] : List (Nat × Obj))) {P : Prop} : P := by cases h
theorem x_open (h : KX w0 p pf nm u fs m w) (hu : u ≤ 340) (md : Nat) {st : J.B} (he : m.open md = (m', st)) :
    Calls Tryz.prog 10 #[.pointer (some ⟨pf, 0, none⟩), .int .u8 (md : Nat)] w fun e w' => e = .returned (.string ⟨st.toArray⟩) ∧ KX w0 p pf nm (u + 1) fs m' w' := by
  obtain ⟨L, h⟩ := h
  refine (k_open h hu md).mono ?_
  rw [he]
  rintro e w' ⟨rfl, h⟩
  exact ⟨rfl, h.kx⟩
theorem x_close (h : KX w0 p pf nm u fs m w) {st : J.B} (he : m.close = (m', st)) :
    Calls Tryz.prog 11 #[.pointer (some ⟨pf, 0, none⟩)] w fun e w' => e = .returned (.string ⟨st.toArray⟩) ∧ KX w0 p pf nm (u + 1) fs m' w' := by
  obtain ⟨L, h⟩ := h
  refine (k_close h).mono ?_
  rw [he]
  rintro e w' ⟨rfl, h⟩
  exact ⟨rfl, h.kx⟩
theorem x_delete (h : KX w0 p pf nm u fs m w) (hu : u ≤ 340) (k : Int) {st : J.B} (he : m.delete k = (m', st)) :
    Calls Tryz.prog 28 #[.pointer (some ⟨pf, 0, none⟩), .int .i64 k] w fun e w' => e = .returned (.string ⟨st.toArray⟩) ∧ KX w0 p pf nm (u + 1) fs m' w' := by
  obtain ⟨L, h⟩ := h
  refine (k_delete h hu k).mono ?_
  rw [he]
  rintro e w' ⟨rfl, h⟩
  exact ⟨rfl, h.kx⟩
theorem x_start (h : KX w0 p pf nm u fs m w) (hu : u ≤ 340) (r : Nat) (k : Int) (hr : r ≤ 5) {st : J.B} (he : m.start r k = (m', st)) :
    Calls Tryz.prog 27 #[.pointer (some ⟨pf, 0, none⟩), .int .u8 (r : Nat), .int .i64 k] w fun e w' => e = .returned (.string ⟨st.toArray⟩) ∧ KX w0 p pf nm (u + 1) fs m' w' := by
  obtain ⟨L, h⟩ := h
  refine (k_start h hu r k hr).mono ?_
  rw [he]
  rintro e w' ⟨rfl, h⟩
  exact ⟨rfl, h.kx⟩
theorem x_writeS (h : KX w0 p pf nm u fs m w) (hu : u ≤ 340) (k : Int) (v : Value) (b : J.B) (hv : Src w0 p fs v b) {st : J.B} (he : m.write k b = (m', st)) :
    Calls Tryz.prog 23 #[.pointer (some ⟨pf, 0, none⟩), .int .i64 k, v] w fun e w' => e = .returned (.string ⟨st.toArray⟩) ∧ KX w0 p pf nm (u + 1) fs m' w' := by
  obtain ⟨L, h⟩ := h
  refine (k_write h hu k v b hv).mono ?_
  rw [he]
  rintro e w' ⟨rfl, h⟩
  exact ⟨rfl, h.kx⟩
theorem x_rewriteS (h : KX w0 p pf nm u fs m w) (hu : u ≤ 340) (k : Int) (v : Value) (b : J.B) (hv : Src w0 p fs v b) {st : J.B} (he : m.rewrite k b = (m', st)) :
    Calls Tryz.prog 14 #[.pointer (some ⟨pf, 0, none⟩), .int .i64 k, v] w fun e w' => e = .returned (.string ⟨st.toArray⟩) ∧ KX w0 p pf nm (u + 1) fs m' w' := by
  obtain ⟨L, h⟩ := h
  refine (k_rewrite h hu k v b hv).mono ?_
  rw [he]
  rintro e w' ⟨rfl, h⟩
  exact ⟨rfl, h.kx⟩
theorem x_appendS (h : KX w0 p pf nm u fs m w) (hu : u ≤ 340) (v : Value) (b : J.B) (hv : Src w0 p fs v b) {n : Nat} {st : J.B} (he : m.append b = (m', n, st)) :
    Calls Tryz.prog 12 #[.pointer (some ⟨pf, 0, none⟩), v] w fun e w' => e = .returned (.tuple #[.int .i64 (n : Nat), .string ⟨st.toArray⟩]) ∧ KX w0 p pf nm (u + 1) fs m' w' := by
  obtain ⟨L, h⟩ := h
  refine (k_append h hu v b hv).mono ?_
  rw [he]
  rintro e w' ⟨rfl, h⟩
  exact ⟨rfl, h.kx⟩
theorem KX.lit (h : KX w0 p pf nm u [] m w) (C : Array Value) (o : Nat × Nat) : KX w0 p pf nm u [(w.heap.size, .cells C 5 o)] m (w.alloc (.cells C 5 o)) := by
  obtain ⟨L, h⟩ := h
  exact ⟨L, h.more _⟩
theorem x_write (h : KX w0 p pf nm u [] m w) (hu : u ≤ 340) (k : Int) (b : J.B) (hb : b ≠ []) (C : Array Value) (hC : C = (u8s b).toArray) {o : Nat × Nat} {st : J.B} (he : m.write k b = (m', st)) :
    Calls Tryz.prog 23 #[.pointer (some ⟨pf, 0, none⟩), .int .i64 k, .slice (some ⟨w.heap.size, 0, none⟩) b.length b.length] (w.alloc (.cells C 5 o)) fun e w' => e = .returned (.string ⟨st.toArray⟩) ∧ KX w0 p pf nm (u + 1) [] m' w' := by
  refine (x_writeS (h.lit C o) hu k _ b (lit_src b hb C hC o _) he).mono ?_
  rintro e w' ⟨rfl, h⟩
  exact ⟨rfl, h.fewer (fun x hx => no_mem hx)⟩
theorem x_rewrite (h : KX w0 p pf nm u [] m w) (hu : u ≤ 340) (k : Int) (b : J.B) (hb : b ≠ []) (C : Array Value) (hC : C = (u8s b).toArray) {o : Nat × Nat} {st : J.B} (he : m.rewrite k b = (m', st)) :
    Calls Tryz.prog 14 #[.pointer (some ⟨pf, 0, none⟩), .int .i64 k, .slice (some ⟨w.heap.size, 0, none⟩) b.length b.length] (w.alloc (.cells C 5 o)) fun e w' => e = .returned (.string ⟨st.toArray⟩) ∧ KX w0 p pf nm (u + 1) [] m' w' := by
  refine (x_rewriteS (h.lit C o) hu k _ b (lit_src b hb C hC o _) he).mono ?_
  rintro e w' ⟨rfl, h⟩
  exact ⟨rfl, h.fewer (fun x hx => no_mem hx)⟩
theorem x_append (h : KX w0 p pf nm u [] m w) (hu : u ≤ 340) (b : J.B) (hb : b ≠ []) (C : Array Value) (hC : C = (u8s b).toArray) {o : Nat × Nat} {n : Nat} {st : J.B} (he : m.append b = (m', n, st)) :
    Calls Tryz.prog 12 #[.pointer (some ⟨pf, 0, none⟩), .slice (some ⟨w.heap.size, 0, none⟩) b.length b.length] (w.alloc (.cells C 5 o)) fun e w' => e = .returned (.tuple #[.int .i64 (n : Nat), .string ⟨st.toArray⟩]) ∧ KX w0 p pf nm (u + 1) [] m' w' := by
  refine (x_appendS (h.lit C o) hu _ b (lit_src b hb C hC o _) he).mono ?_
  rintro e w' ⟨rfl, h⟩
  exact ⟨rfl, h.fewer (fun x hx => no_mem hx)⟩
theorem x_read (h : KX w0 p pf nm u fs m w) (k : Int) (hk : -1000000 ≤ k ∧ k ≤ 1000000) {b st : J.B} (he : m.readR k = (m', some b, st)) :
    Calls Tryz.prog 26 #[.pointer (some ⟨pf, 0, none⟩), .int .i64 k] w fun e w' => ∃ A c, e = .returned (.tuple #[.slice A b.length c, .string ⟨st.toArray⟩]) ∧ By w' NoM A b.length b ∧ KX w0 p pf nm (u + 1) fs m' w' := by
  obtain ⟨L, h⟩ := h
  refine (k_read h k hk).mono ?_
  rw [he]
  rintro e w' ⟨v, rfl, hs, h⟩
  have hs : Sl w' NoM v b := (hs.sl).weak (fun _ h => h.elim)
  obtain ⟨A, c, rfl, _, hby⟩ := hs.by
  exact ⟨A, c, rfl, hby, h.kx⟩
theorem x_nextN (h : KX w0 p pf nm u fs m w) (hu : u ≤ 340) {st : J.B} (he : m.nextR = (m', none, st)) :
    Calls Tryz.prog 13 #[.pointer (some ⟨pf, 0, none⟩)] w fun e w' => ∃ v, e = .returned (.tuple #[v, .int .i64 0, .string ⟨st.toArray⟩]) ∧ Slc w' (· < w.heap.size) v [] ∧ w.grownBy w' (some pf) ∧ KX w0 p pf nm (u + 1) fs m' w' := by
  obtain ⟨L, h⟩ := h
  have hat := fun W hg hr => k_next_at (W := W) h hg hr
  rw [he] at hat
  refine (k_next h hu).mono ?_
  rw [he]
  rintro e w' ⟨v, rfl, hs, hg, hr⟩
  exact ⟨v, rfl, hs, hg, (hat w' hg hr).kx⟩
theorem x_nextS (h : KX w0 p pf nm u fs m w) (hu : u ≤ 340) {n : Nat} {b st : J.B} (he : m.nextR = (m', some (n, b), st)) :
    Calls Tryz.prog 13 #[.pointer (some ⟨pf, 0, none⟩)] w fun e w' => ∃ A c, e = .returned (.tuple #[.slice A b.length c, .int .i64 (n : Nat), .string ⟨st.toArray⟩]) ∧ By w' (· = pf) A b.length b ∧ w.grownBy w' (some pf) ∧ KX w0 p pf nm (u + 1) fs m' w' := by
  obtain ⟨L, h⟩ := h
  have hat := fun W hg hr => k_next_at (W := W) h hg hr
  rw [he] at hat
  have hl := (Array.getElem?_eq_some_iff.1 h.row).1
  refine (k_next h hu).mono ?_
  rw [he]
  rintro e w' ⟨v, rfl, hs, hg, hr⟩
  have hs : Sl w' (· = pf) v b := (hs.sl).weak (fun k e => by subst e; exact hl)
  obtain ⟨A, c, rfl, _, hby⟩ := hs.by
  exact ⟨A, c, rfl, hby, hg, (hat w' hg hr).kx⟩
theorem sl_pf {A : Option Addr} {n : Nat} {b : J.B} (h : By w (· = pf) A n b) (hg : w.grownBy w' (some pf)) : By w' (· = pf) A n b :=
  h.step (Step.of_grown hg (fun k e _ => by injection e with e; exact e.symm))
end
end Go.Proofs.YtjbepnkchoaipaaGreat
