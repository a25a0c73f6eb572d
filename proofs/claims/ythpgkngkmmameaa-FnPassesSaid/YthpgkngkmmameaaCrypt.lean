/-
  The contracts of chapter 32's functions on numbers, in the program and in the reference: both sides of each pair come to one function. Conditions: as each contract states them.
-/
import Derived.Test.YthpgkngkmmameaaCardOne
import Derived.Test.YthpgkngkmmameaaPlainCrypt
namespace Go.Proofs.Ythpgkngkmmameaa
open Go.RowKit
set_option linter.unusedVariables false

theorem impl_isKey_c (n : Int) (w : World) : Calls Try.prog 122 #[.int .i64 n] w fun e w' => e = .returned (.bool (inB n 1 1018)) ∧ w = w' := by
  go_enter Try.func122, Try.ntmps122
  go_wp2_with (go_at_call 94; refine (impl_within_c _ _ _ _).mono ?_; rintro e w' ⟨rfl, rfl⟩)
  go_ret
  exact ⟨rfl, rfl⟩
theorem spec_l32Key_c (n : Int) (w : World) : Calls Try.prog 125 #[.int .i64 n] w fun e w' => e = .returned (.bool (inB n 1 1018)) ∧ w = w' := by
  go_enter Try.func125, Try.ntmps125
  go_wp2_with (go_at_call 98; refine (spec_l01In_c _ _ _ _).mono ?_; rintro e w' ⟨rfl, rfl⟩)
  go_ret
  exact ⟨rfl, rfl⟩
def codeI (c : Int) : Int := (c + 2) * (c + 2) % 2039
theorem impl_codeOf_c (c : Int) (w : World) (h0 : 0 ≤ c) (h1 : c ≤ 51) : Calls Try.prog 169 #[.int .i64 c] w fun e w' => e = .returned (.int .i64 (codeI c)) ∧ w = w' := by
  have hb : (c + 2) * (c + 2) ≤ 53 * 53 := Int.mul_le_mul (by omega) (by omega) (by omega) (by omega)
  have hb0 : 0 ≤ (c + 2) * (c + 2) := Int.mul_nonneg (by omega) (by omega)
  go_enter Try.func169, Try.ntmps169
  go_wp2
  go_ret
  exact ⟨rfl, rfl⟩
theorem spec_l32Code_c (c : Int) (w : World) (h0 : 0 ≤ c) (h1 : c ≤ 51) : Calls Try.prog 171 #[.int .i64 c] w fun e w' => e = .returned (.int .i64 (codeI c)) ∧ w = w' := by
  have hb : (c + 2) * (c + 2) ≤ 53 * 53 := Int.mul_le_mul (by omega) (by omega) (by omega) (by omega)
  have hb0 : 0 ≤ (c + 2) * (c + 2) := Int.mul_nonneg (by omega) (by omega)
  go_enter Try.func171, Try.ntmps171
  go_wp2
  go_ret
  exact ⟨rfl, rfl⟩
def pw (x n : Int) : Int := ((x.toNat ^ n.toNat % 2039 : Nat) : Int)
/-- What holds at the head of the power's loop. -/
def PowRel (x n : Int) (u v r : Value) : Prop := ∃ a b p : Int, u = .int .i64 a ∧ v = .int .i64 b ∧ r = .int .i64 p ∧ 0 ≤ a ∧ a ≤ 2038 ∧ 0 ≤ b ∧ b ≤ 4000000000 ∧ 0 ≤ p ∧ p ≤ 2038 ∧ p.toNat * a.toNat ^ b.toNat % 2039 = x.toNat ^ n.toNat % 2039
theorem pow_end {x n a b p : Int} (hb : b ≤ 0) (h0 : 0 ≤ p) (h1 : p ≤ 2038) (h : p.toNat * a.toNat ^ b.toNat % 2039 = x.toNat ^ n.toNat % 2039) : p = pw x n := by
  have e : b.toNat = 0 := by omega
  unfold pw
  rw [← h, e, Nat.pow_zero, Nat.mul_one]
  omega
theorem impl_powerModulo_c (x n : Int) (w : World) (hx0 : 0 ≤ x) (hx1 : x ≤ 2038) (hn0 : 0 ≤ n) (hn1 : n ≤ 4000000000) : Calls Try.prog 141 #[.int .i64 x, .int .i64 n] w fun e w' => e = .returned (.int .i64 (pw x n)) ∧ w = w' := by
  go_enter Try.func141, Try.ntmps141
  go_wp2
  go_loop [0, 1, 5] (fun a b p => PowRel x n a b p) (fun _ b _ => (intOf b).toNat)
  case atStart => exact ⟨x, n, 1, rfl, rfl, rfl, hx0, hx1, hn0, hn1, by omega, by omega, by simp⟩
  case round =>
    obtain ⟨a, b, p, rfl, rfl, rfl, ha0, ha1, hb0, hb1, hp0, hp1, hrel⟩ := hrel
    have HR := Lib.hid hrel
    clear hrel
    have m1 : 0 ≤ a * a := Int.mul_nonneg ha0 ha0
    have m2 : a * a ≤ 2038 * 2038 := Int.mul_le_mul ha1 ha1 ha0 (by omega)
    have m3 : 0 ≤ p * a := Int.mul_nonneg hp0 ha0
    have m4 : p * a ≤ 2038 * 2038 := Int.mul_le_mul hp1 ha1 ha0 (by omega)
    by_cases hb : 0 < b
    · by_cases ho : b % 2 = 1
      · have e2 := pm_odd p a b hp0 ha0 hb ho
        have HE := Lib.hid e2
        clear e2
        go_wp2
        go_round
        case rel => exact ⟨_, _, _, rfl, rfl, rfl, by omega, by omega, by omega, by omega, by omega, by omega, HE.out.trans HR.out⟩
        case measure => simp [intOf]; omega
      · have e2 := pm_even p a b hp0 ha0 hb (by omega)
        have HE := Lib.hid e2
        clear e2
        go_wp2
        go_round
        case rel => exact ⟨_, _, _, rfl, rfl, rfl, by omega, by omega, by omega, by omega, by omega, by omega, HE.out.trans HR.out⟩
        case measure => simp [intOf]; omega
    · go_wp2
      go_ret
      exact ⟨ret_int (pow_end (by omega) hp0 hp1 HR.out), rfl⟩
theorem spec_l32Power_c (x n : Int) (w : World) (hx0 : 0 ≤ x) (hx1 : x ≤ 2038) (hn0 : 0 ≤ n) (hn1 : n ≤ 4000000000) : Calls Try.prog 178 #[.int .i64 x, .int .i64 n] w fun e w' => e = .returned (.int .i64 (pw x n)) ∧ w = w' := by
  go_enter Try.func178, Try.ntmps178
  go_wp2
  go_loop [0, 1, 5] (fun a b p => PowRel x n a b p) (fun _ b _ => (intOf b).toNat)
  case atStart => exact ⟨x, n, 1, rfl, rfl, rfl, hx0, hx1, hn0, hn1, by omega, by omega, by simp⟩
  case round =>
    obtain ⟨a, b, p, rfl, rfl, rfl, ha0, ha1, hb0, hb1, hp0, hp1, hrel⟩ := hrel
    have HR := Lib.hid hrel
    clear hrel
    have m1 : 0 ≤ a * a := Int.mul_nonneg ha0 ha0
    have m2 : a * a ≤ 2038 * 2038 := Int.mul_le_mul ha1 ha1 ha0 (by omega)
    have m3 : 0 ≤ p * a := Int.mul_nonneg hp0 ha0
    have m4 : p * a ≤ 2038 * 2038 := Int.mul_le_mul hp1 ha1 ha0 (by omega)
    by_cases hb : 0 < b
    · by_cases ho : b % 2 = 1
      · have e2 := pm_odd p a b hp0 ha0 hb ho
        have HE := Lib.hid e2
        clear e2
        go_wp2
        go_round
        case rel => exact ⟨_, _, _, rfl, rfl, rfl, by omega, by omega, by omega, by omega, by omega, by omega, HE.out.trans HR.out⟩
        case measure => simp [intOf]; omega
      · have e2 := pm_even p a b hp0 ha0 hb (by omega)
        have HE := Lib.hid e2
        clear e2
        go_wp2
        go_round
        case rel => exact ⟨_, _, _, rfl, rfl, rfl, by omega, by omega, by omega, by omega, by omega, by omega, HE.out.trans HR.out⟩
        case measure => simp [intOf]; omega
    · go_wp2
      go_ret
      exact ⟨ret_int (pow_end (by omega) hp0 hp1 HR.out), rfl⟩
theorem impl_inverseKey_c (key : Int) (w : World) (h0 : 1 ≤ key) (h1 : key ≤ 1018) : Calls Try.prog 142 #[.int .i64 key] w fun e w' => e = .returned (.int .i64 (invI key)) ∧ w = w' := by
  obtain ⟨i0, i1, i2⟩ := invI_pos key h0 h1
  have HI := Lib.hid i2
  clear i2
  go_enter Try.func142, Try.ntmps142
  go_wp2
  go_loop [3] (fun a => ∃ i : Int, a = .int .i64 i ∧ 1 ≤ i ∧ i ≤ invI key) (fun a => (invI key - intOf a).toNat)
  case atStart => exact ⟨1, rfl, by omega, i0⟩
  case round =>
    obtain ⟨i, rfl, hi0, hi1⟩ := hrel
    have m1 : 0 ≤ key * i := Int.mul_nonneg (by omega) (by omega)
    have m2 : key * i ≤ 1018 * 1018 := Int.mul_le_mul h1 (by omega) (by omega) (by omega)
    by_cases he : key * i % 1019 = 1
    · have hi := Lib.hid (invI_least key i h0 h1 hi0 hi1 he)
      go_wp2
      go_ret
      exact ⟨ret_int hi.out, rfl⟩
    · have hlt : i < invI key := by
        rcases Int.lt_or_eq_of_le hi1 with h | h
        · exact h
        · exact absurd (h ▸ HI.out) he
      go_wp2
      go_round
      case rel => exact ⟨i + 1, rfl, by omega, by omega⟩
      case measure => simp [intOf]; omega
end Go.Proofs.Ythpgkngkmmameaa
