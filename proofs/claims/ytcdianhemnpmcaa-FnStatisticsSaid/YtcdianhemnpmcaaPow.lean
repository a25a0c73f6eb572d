/-
  The contracts of boundedPower, l33Power, isBank, l33Bank. Conditions: the base in 1..30, the exponent in 0..40.
-/
import Derived.Test.YtcdianhemnpmcaaShare
namespace Go.Proofs.Ytcdianhemnpmcaa
open Go.RowKit
set_option linter.unusedVariables false

def pI (x n : Int) : Int := ((x.toNat ^ n.toNat : Nat) : Int)
def okP (x n : Int) : Bool := decide (pI x n ≤ 1000000000)
def bpV (x n : Int) : Int := if okP x n = true then pI x n else 0
def capP (x n : Int) : Int := if okP x n = true then pI x n else 1000000001
theorem pI_zero (x : Int) : pI x 0 = 1 := by simp [pI]
theorem pI_succ {x : Int} {k : Nat} (hx : 0 ≤ x) : pI x ((k + 1 : Nat) : Int) = pI x (k : Int) * x := by
  obtain ⟨m, rfl⟩ := Int.eq_ofNat_of_zero_le hx
  unfold pI
  simp only [Int.toNat_natCast]
  rw [Nat.pow_succ, Int.natCast_mul]
theorem pI_mono {x : Int} {j k : Nat} (hx : 1 ≤ x) (h : j ≤ k) : pI x (j : Int) ≤ pI x (k : Int) := by
  obtain ⟨m, rfl⟩ := Int.eq_ofNat_of_zero_le (show 0 ≤ x by omega)
  unfold pI
  simp only [Int.toNat_natCast]
  have := Nat.pow_le_pow_right (show 0 < m by omega) h
  omega
theorem pI_pos {x : Int} (n : Int) (hx : 1 ≤ x) : 1 ≤ pI x n := by
  obtain ⟨m, rfl⟩ := Int.eq_ofNat_of_zero_le (show 0 ≤ x by omega)
  unfold pI
  have := Nat.pow_pos (n := n.toNat) (show 0 < m by omega)
  simp only [Int.toNat_natCast]
  omega
theorem pI_base {x y : Int} (n : Int) (hx : 0 ≤ x) (h : x ≤ y) : pI x n ≤ pI y n := by
  obtain ⟨m, rfl⟩ := Int.eq_ofNat_of_zero_le hx
  obtain ⟨k, rfl⟩ := Int.eq_ofNat_of_zero_le (show 0 ≤ y by omega)
  unfold pI
  simp only [Int.toNat_natCast]
  have := Nat.pow_le_pow_left (show m ≤ k by omega) n.toNat
  omega
theorem pI_base_lt {x y : Int} {n : Int} (hx : 0 ≤ x) (h : x < y) (hn : 1 ≤ n) : pI x n < pI y n := by
  obtain ⟨m, rfl⟩ := Int.eq_ofNat_of_zero_le hx
  obtain ⟨k, rfl⟩ := Int.eq_ofNat_of_zero_le (show 0 ≤ y by omega)
  unfold pI
  simp only [Int.toNat_natCast]
  have := Nat.pow_lt_pow_left (show m < k by omega) (show n.toNat ≠ 0 by omega)
  omega
theorem mul30 {p x : Int} (h0 : 1 ≤ p) (h1 : p ≤ 1000000001) (x0 : 1 ≤ x) (x1 : x ≤ 30) : 1 ≤ p * x ∧ p * x ≤ 40000000000 ∧ p ≤ p * x := by
  have a1 : 1 * 1 ≤ p * x := Int.mul_le_mul h0 x0 (by omega) (by omega)
  have a2 : p * x ≤ 1000000001 * 30 := Int.mul_le_mul h1 x1 (by omega) (by omega)
  have a3 : p * 1 ≤ p * x := Int.mul_le_mul_of_nonneg_left x0 (by omega)
  omega
theorem bp_fail {x n : Int} {k : Nat} (hx : 1 ≤ x) (hk : (k : Int) < n) (h : 1000000000 < pI x (k : Int) * x) : okP x n = false := by
  rw [← pI_succ (by omega)] at h
  have := pI_mono (x := x) (j := k + 1) (k := n.toNat) hx (by omega)
  rw [show ((n.toNat : Nat) : Int) = n from by omega] at this
  unfold okP
  simp only [decide_eq_false_iff_not]
  omega
theorem ret_ib {k : IntKind} {a b : Int} {c d : Bool} (h : a = b) (h' : c = d) : Ending.returned (.tuple #[.int k a, .bool c]) = .returned (.tuple #[.int k b, .bool d]) := by rw [h, h']

theorem impl_boundedPower_c (x n : Int) (w : World) (x0 : 1 ≤ x) (x1 : x ≤ 30) (n0 : 0 ≤ n) (n1 : n ≤ 40) :
    Calls Try.prog 57 #[.int .i64 x, .int .i64 n] w fun e w' => e = .returned (.tuple #[.int .i64 (bpV x n), .bool (okP x n)]) ∧ w = w' := by
  go_enter Try.func57, Try.ntmps57
  go_wp2_with fail
  go_loop [6, 8] (fun p i => ∃ k : Nat, p = .int .i64 (pI x k) ∧ i = .int .i64 k ∧ (k : Int) ≤ n ∧ pI x k ≤ 1000000000) (fun _ i => (n - intOf i).toNat)
  case atStart => exact ⟨0, by rw [show ((0 : Nat) : Int) = 0 from rfl, pI_zero], rfl, by omega, by rw [show ((0 : Nat) : Int) = 0 from rfl, pI_zero]; omega⟩
  case round =>
    obtain ⟨k, rfl, rfl, hk, hp⟩ := hrel
    have hp0 := pI_pos (k : Int) x0
    obtain ⟨m1, m2, m3⟩ := mul30 hp0 (by omega) x0 x1
    by_cases hlt : (k : Int) < n
    · by_cases hbig : 1000000000 < pI x (k : Int) * x
      · have HO := Lib.hid (bp_fail x0 hlt hbig)
        have HV := Lib.hid (show bpV x n = 0 by unfold bpV; rw [HO.out]; rfl)
        go_wp2_with fail
        go_ret2
        exact ⟨ret_ib HV.out.symm HO.out.symm, rfl⟩
      · have HS := Lib.hid (pI_succ (k := k) (show 0 ≤ x by omega))
        go_wp2_with fail
        go_round
        case rel => exact ⟨k + 1, by rw [HS.out], by go_num, by omega, by rw [HS.out]; omega⟩
        case measure => simp [intOf]; omega
    · have hke : (k : Int) = n := by omega
      have HO := Lib.hid (show okP x n = true by rw [← hke]; unfold okP; simpa using hp)
      have HV := Lib.hid (show bpV x n = pI x k by unfold bpV; rw [HO.out, hke]; rfl)
      clear hke
      go_wp2_with fail
      go_ret2
      exact ⟨ret_ib HV.out.symm HO.out.symm, rfl⟩
theorem cap_step {x : Int} {k : Nat} (hx : 1 ≤ x) : (1000000001 ≤ capP x k * x → capP x ((k + 1 : Nat) : Int) = 1000000001) ∧ (¬ 1000000001 ≤ capP x k * x → capP x ((k + 1 : Nat) : Int) = capP x k * x) := by
  have hs := pI_succ (k := k) (show 0 ≤ x by omega)
  have hp0 := pI_pos (k : Int) hx
  by_cases h : pI x (k : Int) ≤ 1000000000
  · have e : capP x k = pI x k := by unfold capP okP; rw [if_pos (by simpa using h)]
    rw [e, ← hs]
    constructor
    · intro h1; unfold capP okP; rw [if_neg (by simp only [decide_eq_true_eq]; omega)]
    · intro h1; unfold capP okP; rw [if_pos (by simp only [decide_eq_true_eq]; omega)]
  · have e : capP x k = 1000000001 := by unfold capP okP; rw [if_neg (by simpa using h)]
    have h2 : pI x (k : Int) * 1 ≤ pI x (k : Int) * x := Int.mul_le_mul_of_nonneg_left hx (by omega)
    rw [e]
    constructor
    · intro _; unfold capP okP; rw [if_neg (by simp only [decide_eq_true_eq]; omega)]
    · intro h1; omega
theorem cap_range {x n : Int} (hx : 1 ≤ x) : 1 ≤ capP x n ∧ capP x n ≤ 1000000001 := by
  have hp0 := pI_pos n hx
  unfold capP okP
  split
  · rename_i h; simp at h; omega
  · omega
theorem spec_l33Power_c (x n : Int) (w : World) (x0 : 1 ≤ x) (x1 : x ≤ 30) (n0 : 0 ≤ n) (n1 : n ≤ 40) :
    Calls Try.prog 54 #[.int .i64 x, .int .i64 n] w fun e w' => e = .returned (.int .i64 (capP x n)) ∧ w = w' := by
  go_enter Try.func54, Try.ntmps54
  go_wp2_with fail
  go_loop [1, 5] (fun i p => ∃ (k : Nat) (j : Int), p = .int .i64 (capP x k) ∧ i = .int .i64 j ∧ 0 ≤ j ∧ j ≤ 40 ∧ j + k = n) (fun i _ => (intOf i).toNat)
  case atStart => exact ⟨0, n, by simp [capP, okP, pI], rfl, n0, n1, by omega⟩
  case round =>
    obtain ⟨k, j, rfl, rfl, hj0, hj1, hjk⟩ := hrel
    have HJ := Lib.hid hjk
    clear hjk
    obtain ⟨c0, c1⟩ := cap_range (x := x) (n := (k : Int)) x0
    obtain ⟨m1, m2, m3⟩ := mul30 c0 c1 x0 x1
    by_cases hlt : 0 < j
    · by_cases hbig : 1000000001 ≤ capP x k * x
      · have HS := Lib.hid ((cap_step (k := k) x0).1 hbig)
        go_wp2_with fail
        go_round
        case rel => exact ⟨k + 1, j - 1, by rw [HS.out], rfl, by omega, by omega, by have := HJ.out; omega⟩
        case measure => simp [intOf]; omega
      · have HS := Lib.hid ((cap_step (k := k) x0).2 hbig)
        have hlt2 : capP x k * x < 1000000001 := by omega
        go_wp2_with fail
        go_round
        case rel => exact ⟨k + 1, j - 1, by rw [HS.out], rfl, by omega, by omega, by have := HJ.out; omega⟩
        case measure => simp [intOf]; omega
    · go_wp2_with fail
      go_ret
      exact ⟨ret_int (by have := HJ.out; rw [show (k : Int) = n from by omega]), rfl⟩
theorem impl_isBank_c (n : Int) (w : World) : Calls Try.prog 55 #[.int .i64 n] w fun e w' => e = .returned (.bool (inB n 1 40)) ∧ w = w' := by
  go_enter Try.func55, Try.ntmps55
  go_wp2_with (go_at_call 60; refine (impl_within_c _ _ _ _).mono ?_; rintro e w' ⟨rfl, rfl⟩)
  go_ret
  exact ⟨rfl, rfl⟩
theorem spec_l33Bank_c (n : Int) (w : World) : Calls Try.prog 51 #[.int .i64 n] w fun e w' => e = .returned (.bool (inB n 1 40)) ∧ w = w' := by
  go_enter Try.func51, Try.ntmps51
  go_wp2_with (go_at_call 68; refine (spec_l01In_c _ _ _ _).mono ?_; rintro e w' ⟨rfl, rfl⟩)
  go_ret
  exact ⟨rfl, rfl⟩
end Go.Proofs.Ytcdianhemnpmcaa
