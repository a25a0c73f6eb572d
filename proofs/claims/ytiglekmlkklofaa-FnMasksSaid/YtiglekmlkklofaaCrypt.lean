/-
  The contracts of chapter 32's functions on numbers, in the program and in the reference: both sides of each pair come to one function. Conditions: as each contract states them.
-/
import Derived.Test.YtiglekmlkklofaaCardOne
import Derived.Test.YtiglekmlkklofaaPlainCrypt
namespace Go.Proofs.Ytiglekmlkklofaa
open Go.RowKit
set_option linter.unusedVariables false

theorem impl_isKey_c (n : Int) (w : World) : Calls Try.prog 69 #[.int .i64 n] w fun e w' => e = .returned (.bool (inB n 1 1018)) ∧ w = w' := by
  go_enter Try.func69, Try.ntmps69
  go_wp2_with (go_at_call 65; refine (impl_within_c _ _ _ _).mono ?_; rintro e w' ⟨rfl, rfl⟩)
  go_ret
  exact ⟨rfl, rfl⟩
theorem spec_l32Key_c (n : Int) (w : World) : Calls Try.prog 67 #[.int .i64 n] w fun e w' => e = .returned (.bool (inB n 1 1018)) ∧ w = w' := by
  go_enter Try.func67, Try.ntmps67
  go_wp2_with (go_at_call 63; refine (spec_l01In_c _ _ _ _).mono ?_; rintro e w' ⟨rfl, rfl⟩)
  go_ret
  exact ⟨rfl, rfl⟩
def codeI (c : Int) : Int := (c + 2) * (c + 2) % 2039
theorem impl_codeOf_c (c : Int) (w : World) (h0 : 0 ≤ c) (h1 : c ≤ 51) : Calls Try.prog 62 #[.int .i64 c] w fun e w' => e = .returned (.int .i64 (codeI c)) ∧ w = w' := by
  have hb : (c + 2) * (c + 2) ≤ 53 * 53 := Int.mul_le_mul (by omega) (by omega) (by omega) (by omega)
  have hb0 : 0 ≤ (c + 2) * (c + 2) := Int.mul_nonneg (by omega) (by omega)
  go_enter Try.func62, Try.ntmps62
  go_wp2
  go_ret
  exact ⟨rfl, rfl⟩
theorem spec_l32Code_c (c : Int) (w : World) (h0 : 0 ≤ c) (h1 : c ≤ 51) : Calls Try.prog 60 #[.int .i64 c] w fun e w' => e = .returned (.int .i64 (codeI c)) ∧ w = w' := by
  have hb : (c + 2) * (c + 2) ≤ 53 * 53 := Int.mul_le_mul (by omega) (by omega) (by omega) (by omega)
  have hb0 : 0 ≤ (c + 2) * (c + 2) := Int.mul_nonneg (by omega) (by omega)
  go_enter Try.func60, Try.ntmps60
  go_wp2
  go_ret
  exact ⟨rfl, rfl⟩
def pw (x n : Int) : Int := ((x.toNat ^ n.toNat % 2039 : Nat) : Int)
/-- What holds at the head of the power's loop. -/
def PowRel (x n : Int) (u v r : Value) : Prop := ∃ a b p : Int, u = .int .i64 a ∧ v = .int .i64 b ∧ r = .int .i64 p ∧ 0 ≤ a ∧ a ≤ 2038 ∧ 0 ≤ b ∧ b ≤ 4000000000 ∧ 0 ≤ p ∧ p ≤ 2038 ∧ p.toNat * a.toNat ^ b.toNat % 2039 = x.toNat ^ n.toNat % 2039
theorem pow_end {x n a b p : Int} (hb : b ≤ 0) (h0 : 0 ≤ p) (h1 : p ≤ 2038) (h : p.toNat * a.toNat ^ b.toNat % 2039 = x.toNat ^ n.toNat % 2039) : p = pw x n := by
  have e : b.toNat = 0 := by omega
  unfold pw
  rw [← h, e, Nat.pow_zero, Nat.mul_one]
  omega
theorem impl_powerModulo_c (x n : Int) (w : World) (hx0 : 0 ≤ x) (hx1 : x ≤ 2038) (hn0 : 0 ≤ n) (hn1 : n ≤ 4000000000) : Calls Try.prog 66 #[.int .i64 x, .int .i64 n] w fun e w' => e = .returned (.int .i64 (pw x n)) ∧ w = w' := by
  go_enter Try.func66, Try.ntmps66
  go_wp2
  go_loop [0, 1, 5] (fun a b p => PowRel x n a b p) (fun _ b _ => (intOf b).toNat)
  case atStart => exact ⟨x, n, 1, rfl, rfl, rfl, hx0, hx1, hn0, hn1, by omega, by omega, by simp⟩
  case round =>
    obtain ⟨a, b, p, rfl, rfl, rfl, ha0, ha1, hb0, hb1, hp0, hp1, hrel⟩ := hrel
    have HR := Lib.hid hrel
    clear hrel
    have m1 : 0 ≤ a * a := Int.mul_nonneg ha0 ha0
    have m2 : a * a ≤ 2038 * 2038 := Int.mul_le_mul ha1 ha1 ha0 (by omega)
    have m3 : 0 ≤ p * a := Int.mul_nonneg hp0 ha0
    have m4 : p * a ≤ 2038 * 2038 := Int.mul_le_mul hp1 ha1 ha0 (by omega)
    by_cases hb : 0 < b
    · by_cases ho : b % 2 = 1
      · have e2 := pm_odd p a b hp0 ha0 hb ho
        have HE := Lib.hid e2
        clear e2
        go_wp2
        go_round
        case rel => exact ⟨_, _, _, rfl, rfl, rfl, by omega, by omega, by omega, by omega, by omega, by omega, HE.out.trans HR.out⟩
        case measure => simp [intOf]; omega
      · have e2 := pm_even p a b hp0 ha0 hb (by omega)
        have HE := Lib.hid e2
        clear e2
        go_wp2
        go_round
        case rel => exact ⟨_, _, _, rfl, rfl, rfl, by omega, by omega, by omega, by omega, by omega, by omega, HE.out.trans HR.out⟩
        case measure => simp [intOf]; omega
    · go_wp2
      go_ret
      exact ⟨ret_int (pow_end (by omega) hp0 hp1 HR.out), rfl⟩
theorem spec_l32Power_c (x n : Int) (w : World) (hx0 : 0 ≤ x) (hx1 : x ≤ 2038) (hn0 : 0 ≤ n) (hn1 : n ≤ 4000000000) : Calls Try.prog 64 #[.int .i64 x, .int .i64 n] w fun e w' => e = .returned (.int .i64 (pw x n)) ∧ w = w' := by
  go_enter Try.func64, Try.ntmps64
  go_wp2
  go_loop [0, 1, 5] (fun a b p => PowRel x n a b p) (fun _ b _ => (intOf b).toNat)
  case atStart => exact ⟨x, n, 1, rfl, rfl, rfl, hx0, hx1, hn0, hn1, by omega, by omega, by simp⟩
  case round =>
    obtain ⟨a, b, p, rfl, rfl, rfl, ha0, ha1, hb0, hb1, hp0, hp1, hrel⟩ := hrel
    have HR := Lib.hid hrel
    clear hrel
    have m1 : 0 ≤ a * a := Int.mul_nonneg ha0 ha0
    have m2 : a * a ≤ 2038 * 2038 := Int.mul_le_mul ha1 ha1 ha0 (by omega)
    have m3 : 0 ≤ p * a := Int.mul_nonneg hp0 ha0
    have m4 : p * a ≤ 2038 * 2038 := Int.mul_le_mul hp1 ha1 ha0 (by omega)
    by_cases hb : 0 < b
    · by_cases ho : b % 2 = 1
      · have e2 := pm_odd p a b hp0 ha0 hb ho
        have HE := Lib.hid e2
        clear e2
        go_wp2
        go_round
        case rel => exact ⟨_, _, _, rfl, rfl, rfl, by omega, by omega, by omega, by omega, by omega, by omega, HE.out.trans HR.out⟩
        case measure => simp [intOf]; omega
      · have e2 := pm_even p a b hp0 ha0 hb (by omega)
        have HE := Lib.hid e2
        clear e2
        go_wp2
        go_round
        case rel => exact ⟨_, _, _, rfl, rfl, rfl, by omega, by omega, by omega, by omega, by omega, by omega, HE.out.trans HR.out⟩
        case measure => simp [intOf]; omega
    · go_wp2
      go_ret
      exact ⟨ret_int (pow_end (by omega) hp0 hp1 HR.out), rfl⟩
theorem impl_inverseKey_c (key : Int) (w : World) (h0 : 1 ≤ key) (h1 : key ≤ 1018) : Calls Try.prog 70 #[.int .i64 key] w fun e w' => e = .returned (.int .i64 (invI key)) ∧ w = w' := by
  obtain ⟨i0, i1, i2⟩ := invI_pos key h0 h1
  have HI := Lib.hid i2
  clear i2
  go_enter Try.func70, Try.ntmps70
  go_wp2
  go_loop [3] (fun a => ∃ i : Int, a = .int .i64 i ∧ 1 ≤ i ∧ i ≤ invI key) (fun a => (invI key - intOf a).toNat)
  case atStart => exact ⟨1, rfl, by omega, i0⟩
  case round =>
    obtain ⟨i, rfl, hi0, hi1⟩ := hrel
    have m1 : 0 ≤ key * i := Int.mul_nonneg (by omega) (by omega)
    have m2 : key * i ≤ 1018 * 1018 := Int.mul_le_mul h1 (by omega) (by omega) (by omega)
    by_cases he : key * i % 1019 = 1
    · have hi := Lib.hid (invI_least key i h0 h1 hi0 hi1 he)
      go_wp2
      go_ret
      exact ⟨ret_int hi.out, rfl⟩
    · have hlt : i < invI key := by
        rcases Int.lt_or_eq_of_le hi1 with h | h
        · exact h
        · exact absurd (h ▸ HI.out) he
      go_wp2
      go_round
      case rel => exact ⟨i + 1, rfl, by omega, by omega⟩
      case measure => simp [intOf]; omega
theorem spec_l32Inverse_c (key : Int) (w : World) (h0 : 1 ≤ key) (h1 : key ≤ 1018) : Calls Try.prog 68 #[.int .i64 key] w fun e w' => e = .returned (.int .i64 (invI key)) ∧ w = w' := by
  obtain ⟨i0, i1, i2⟩ := invI_pos key h0 h1
  have HI := Lib.hid i2
  clear i2
  go_enter Try.func68, Try.ntmps68
  go_wp2
  go_loop [3] (fun a => ∃ i : Int, a = .int .i64 i ∧ 1 ≤ i ∧ i ≤ invI key) (fun a => (invI key - intOf a).toNat)
  case atStart => exact ⟨1, rfl, by omega, i0⟩
  case round =>
    obtain ⟨i, rfl, hi0, hi1⟩ := hrel
    have m1 : 0 ≤ key * i := Int.mul_nonneg (by omega) (by omega)
    have m2 : key * i ≤ 1018 * 1018 := Int.mul_le_mul h1 (by omega) (by omega) (by omega)
    by_cases he : key * i % 1019 = 1
    · have hi := Lib.hid (invI_least key i h0 h1 hi0 hi1 he)
      go_wp2
      go_ret
      exact ⟨ret_int hi.out, rfl⟩
    · have hlt : i < invI key := by
        rcases Int.lt_or_eq_of_le hi1 with h | h
        · exact h
        · exact absurd (h ▸ HI.out) he
      go_wp2
      go_round
      case rel => exact ⟨i + 1, rfl, by omega, by omega⟩
      case measure => simp [intOf]; omega
end Go.Proofs.Ytiglekmlkklofaa
