import Derived.Test.YthjjbaiijelhnaaM06
set_option linter.unusedVariables false
set_option linter.unusedSimpArgs false
/- Law 30: the law's own record. -/
namespace Go.Proofs.Ythjjbaiijelhnaa
open Go.RowKit Go.Lib
set_option maxRecDepth 100000
namespace J
/-- The law's record: its bytes ahead of the check. -/
def lbody (kind number : Nat) (rest : B) : B := UInt8.ofNat kind :: leB number 4 ++ leB rest.length 4 ++ rest
def lrec (kind number : Nat) (rest : B) : B := lbody kind number rest ++ leB (chk (lbody kind number rest)) 4
theorem lrec_record (kind number : Nat) (l : List Chg) : lrec kind number (encs l) = record kind number l := rfl
theorem lbody_lit (kind number n : Nat) (hn : number < 256) (h : n < 16777216) : UInt8.ofNat kind :: leB number 4 ++ leB n 4 = [UInt8.ofNat kind, UInt8.ofNat number, 0, 0, 0, UInt8.ofNat (n % 256), UInt8.ofNat (n / 256 % 256), UInt8.ofNat (n / 65536), 0] := by
  have e1 : number / 256 = 0 := by omega
  have e2 : n / 256 / 256 = n / 65536 := by omega
  have e3 : n / 65536 / 256 = 0 := by omega
  have e4 : ∀ x : Nat, UInt8.ofNat x = UInt8.ofNat (x % 256) := fun x => by apply UInt8.toNat_inj.1; simp
  simp only [leB, e1, e2, e3, List.cons_append, List.nil_append, Nat.zero_div]
  rw [e4 n, e4 (n / 256)]
  rfl
end J
theorem u8_lit (x : Nat) (y : Int) (h : y = ((x % 256 : Nat) : Int)) : u8 (UInt8.ofNat x) = Value.int .u8 y := by
  rw [h]; simp [u8]
theorem lrec_any (kind number : Nat) (A : Option Addr) (n c : Nat) (rest : J.B) (w : World) (h : By w NoM A n rest) (hk : kind < 256) (hn : number < 256) (hl : n ≤ 100000) :
    Calls Try.prog 16 #[.int .u8 kind, .int .u8 number, .slice A n c] w fun e w' => ∃ v', e = .returned v' ∧ w'.ownsRow w.heap.size 5 1 v' (J.lrec kind number rest).length (u8s (J.lrec kind number rest)) ∧ Below w.heap.size w w' := by
  have H := Lib.hid h
  have hrl : rest.length = n := h.1
  clear h
  have h1 : (n : Int).tmod 256 = ((n % 256 : Nat) : Int) := rfl
  have h2 : (n : Int).tdiv 256 = ((n / 256 : Nat) : Int) := rfl
  have h3 : ((n / 256 : Nat) : Int).tmod 256 = ((n / 256 % 256 : Nat) : Int) := rfl
  have h4 : (n : Int).tdiv 65536 = ((n / 65536 : Nat) : Int) := rfl
  have hrow0 : (w.alloc (.cells #[.int .u8 kind, .int .u8 number, .int .u8 0, .int .u8 0, .int .u8 0, .int .u8 ((n : Int) % 256), .int .u8 ((n : Int) / 256 % 256), .int .u8 ((n : Int) / 65536), .int .u8 0] 5)).ownsRow w.heap.size 5 1 (.slice (some ⟨w.heap.size, 0, none⟩) 9 9) 9 (u8s [UInt8.ofNat kind, UInt8.ofNat number, 0, 0, 0, UInt8.ofNat (n % 256), UInt8.ofNat (n / 256 % 256), UInt8.ofNat (n / 65536), 0]) := by
    have := World.ownsRow_lit (base := w.heap.size) (e := 5) (size := 1) w #[.int .u8 kind, .int .u8 number, .int .u8 0, .int .u8 0, .int .u8 0, .int .u8 ((n : Int) % 256), .int .u8 ((n : Int) / 256 % 256), .int .u8 ((n : Int) / 65536), .int .u8 0] 9 (Nat.le_refl _) (by decide) rfl
    have e : u8s [UInt8.ofNat kind, UInt8.ofNat number, 0, 0, 0, UInt8.ofNat (n % 256), UInt8.ofNat (n / 256 % 256), UInt8.ofNat (n / 65536), 0] = [Value.int .u8 kind, .int .u8 number, .int .u8 0, .int .u8 0, .int .u8 0, .int .u8 ((n : Int) % 256), .int .u8 ((n : Int) / 256 % 256), .int .u8 ((n : Int) / 65536), .int .u8 0] := by
      simp only [u8s, List.map_cons, List.map_nil]
      rw [u8_lit kind kind (by omega), u8_lit number number (by omega), u8_lit (n % 256) ((n : Int) % 256) (by omega), u8_lit (n / 256 % 256) ((n : Int) / 256 % 256) (by omega), u8_lit (n / 65536) ((n : Int) / 65536) (by omega)]
      rfl
    rw [e]; exact this
  have HR0 := Lib.hid hrow0
  have HLB := Lib.hid (show J.lbody kind number rest = [UInt8.ofNat kind, UInt8.ofNat number, 0, 0, 0, UInt8.ofNat (n % 256), UInt8.ofNat (n / 256 % 256), UInt8.ofNat (n / 65536), 0] ++ rest by rw [J.lbody, hrl, J.lbody_lit kind number n hn (by omega)])
  clear hrow0
  go_enter Try.func16, Try.ntmps16
  go_wp2_with (at_builtin; refine wpList_app_by rfl _ _ rfl w.heap.size _ 9 _ rfl HR0.out NoM A n c rest rfl (H.out.alloc _) (by omega) (by simp) ?_)
  intro v1 w1 hown1 hg1 hat1 hnil1
  have hb1 := ((Below.refl w.heap.size w).alloc (Nat.le_refl _) _).grown hg1 (by simp) (fun j hj => (HR0.out.lt j hj).1)
  have HB1 := Lib.hid hb1
  have hown1 := rec_row hown1 (l' := J.lbody kind number rest) HLB.out
  have hbl : (J.lbody kind number rest).length = 9 + n := by rw [HLB.out]; simp [hrl]; omega
  have hck := J.chk_lt (J.lbody kind number rest)
  have HRC := Lib.hid (show J.lrec kind number rest = J.lbody kind number rest ++ J.leB (J.chk (J.lbody kind number rest)) 4 from rfl)
  generalize J.lbody kind number rest = BD at hown1 hbl hck HRC
  obtain ⟨A1, c1, rfl, hc1, hby1⟩ := ownsRow_by hown1 (M := NoM) (fun _ h => h.elim)
  have HO1 := Lib.hid hown1
  have HY1 := Lib.hid hby1
  clear hown1 hby1 hb1 hg1 hat1 hnil1 h1 h2 h3 h4 HR0 HLB H
  have hbs : BD.length ≤ 100009 := by omega
  clear hbl hrl
  have HCK := Lib.hid hck
  clear hck
  go_wp2_with fail
  go_loop [9, 10] (fun s i => ∃ k : Nat, k ≤ BD.length ∧ i = .int .i64 k ∧ s = .int .u32 (J.chk (BD.take k) : Nat)) (fun _ i => BD.length - (intOf i).toNat)
  case atStart => exact ⟨0, Nat.zero_le _, rfl, rfl⟩
  case round =>
    obtain ⟨k, hk, rfl, rfl⟩ := hrel
    by_cases hlt : k < BD.length
    · obtain ⟨b, o, rfl, hb, _, hc⟩ := HY1.out.cell hlt
      have HS := Lib.hid (take_snocL BD k hlt)
      have HC := Lib.hid (J.chk_snoc (BD.take k) BD[k])
      have HX := Lib.hid (chk_bits (J.chk (BD.take k)) BD[k] (J.chk_lt _))
      go_wp2
      go_round
      case rel => exact ⟨k + 1, by omega, by go_num, by rw [HS.out, HC.out, HX.out]⟩
      case measure => simp [intOf]; omega
    · obtain rfl : k = BD.length := by omega
      rw [List.take_length]
      generalize J.chk BD = CK at HRC HCK
      have hlit : ∀ W : World, By (W.alloc (.cells #[.int .u8 ((CK : Int) % 256), .int .u8 ((CK : Int) / 256 % 256), .int .u8 ((CK : Int) / 65536 % 256), .int .u8 ((CK : Int) / 16777216 % 256)] 5)) NoM (some ⟨W.heap.size, 0, none⟩) 4 (J.leB CK 4) := by
        intro W
        have := World.ownsRow_lit (base := W.heap.size) (e := 5) (size := 1) W #[.int .u8 ((CK : Int) % 256), .int .u8 ((CK : Int) / 256 % 256), .int .u8 ((CK : Int) / 65536 % 256), .int .u8 ((CK : Int) / 16777216 % 256)] 4 (Nat.le_refl _) (by decide) rfl
        have e : u8s (J.leB CK 4) = [Value.int .u8 ((CK : Int) % 256), .int .u8 ((CK : Int) / 256 % 256), .int .u8 ((CK : Int) / 65536 % 256), .int .u8 ((CK : Int) / 16777216 % 256)] := by
          simp only [J.leB, u8s, List.map_cons, List.map_nil]
          rw [u8_lit CK ((CK : Int) % 256) (by omega), u8_lit (CK / 256) ((CK : Int) / 256 % 256) (by omega), u8_lit (CK / 256 / 256) ((CK : Int) / 65536 % 256) (by omega), u8_lit (CK / 256 / 256 / 256) ((CK : Int) / 16777216 % 256) (by omega)]
        obtain ⟨A, c, e1, _, hb⟩ := ownsRow_by (M := NoM) (l := J.leB CK 4) (by rw [e]; exact this) (fun _ h => h.elim)
        injection e1 with e1 e2 e3
        rw [e1]; exact hb
      have HL := Lib.hid hlit
      clear hlit
      go_wp2_with (at_builtin; refine wpList_app_by rfl _ _ rfl w.heap.size _ BD.length BD rfl (HO1.out.alloc _) NoM (some ⟨w1.heap.size, 0, none⟩) 4 4 (J.leB CK 4) rfl (HL.out _) (by omega) (by have := HB1.out.size; simp; omega) ?_)
      intro v2 w2 hown2 hg2 hat2 hnil2
      have hb2 := (HB1.out.alloc HB1.out.size (.cells #[.int .u8 ((CK : Int) % 256), .int .u8 ((CK : Int) / 256 % 256), .int .u8 ((CK : Int) / 65536 % 256), .int .u8 ((CK : Int) / 16777216 % 256)] 5)).grown hg2 (by have := HB1.out.size; simp; omega) (fun j hj => (HO1.out.lt j hj).1)
      have HB2 := Lib.hid hb2
      have HO2 := Lib.hid (rec_row hown2 HRC.out)
      clear hown2 hg2 hat2 hnil2 hb2
      go_wp2_with fail
      go_ret
      exact ⟨_, rfl, HO2.out, HB2.out⟩
end Go.Proofs.Ythjjbaiijelhnaa
