/-
  Plain facts of results: a variance is not negative; the last balance is the mean times the number. Conditions: none.
-/
import Derived.Test.YtcdianhemnpmcaaShare
import Derived.Test.YtcdianhemnpmcaaBal
namespace Go.Proofs.Ytcdianhemnpmcaa
open Go.RowKit
set_option linter.unusedVariables false
theorem mul_self_nonneg' (z : Int) : 0 ≤ z * z := by rw [← Int.natAbs_mul_self]; exact Int.natCast_nonneg _
theorem dev_nonneg (zs : List Int) (x : Int) (k : Nat) (hk : k ≤ zs.length) : 0 ≤ sqL (zs.take k) - 2 * (x * sumL (zs.take k)) + k * (x * x) := by
  induction k with
  | zero => simp [sqL, sumL]
  | succ k ih =>
    obtain ⟨y, hy⟩ := get_some (zs := zs) (k := k) (by omega)
    have h := ih (by omega)
    rw [sqL_step hy, sumL_step hy]
    have h2 : 0 ≤ (y - x) * (y - x) := mul_self_nonneg' _
    grind
theorem cauchy (zs : List Int) (k : Nat) (hk : k ≤ zs.length) : 0 ≤ k * sqL (zs.take k) - sumL (zs.take k) * sumL (zs.take k) := by
  induction k with
  | zero => simp [sqL, sumL]
  | succ k ih =>
    obtain ⟨y, hy⟩ := get_some (zs := zs) (k := k) (by omega)
    have h := ih (by omega)
    have h2 := dev_nonneg zs y k (by omega)
    rw [sqL_step hy, sumL_step hy]
    grind
theorem var_nonneg {zs : List Int} (hr : resB zs = true) : 0 ≤ varN zs := by
  obtain ⟨h0, h1, h2⟩ := resB_iff.1 hr
  have hc := cauchy zs zs.length (Nat.le_refl _)
  rw [List.take_length] at hc
  have hp : 0 ≤ varP zs := hc
  unfold varN
  rw [if_pos hr]
  unfold redN
  split
  · unfold redP
    have hq := len_sq_bd h0 h1
    exact Int.tdiv_nonneg hp (by have := gcd_pos (a := absI (varP zs)) (b := varQ zs) (by unfold varQ; omega); omega)
  · exact Int.le_refl _
theorem gcd_dvd {num den : Int} (hd : 0 ≤ den) : gcdI (absI num) den ∣ num ∧ gcdI (absI num) den ∣ den := by
  have ha : ((absI num).toNat : Int) = absI num := by have := absI_nonneg num; omega
  have hb : ((den.toNat : Nat) : Int) = den := by omega
  have h1 : ((Nat.gcd (absI num).toNat den.toNat : Nat) : Int) ∣ absI num := by
    have := Int.natCast_dvd_natCast.2 (Nat.gcd_dvd_left (absI num).toNat den.toNat)
    rwa [ha] at this
  have h2 : ((Nat.gcd (absI num).toNat den.toNat : Nat) : Int) ∣ den := by
    have := Int.natCast_dvd_natCast.2 (Nat.gcd_dvd_right (absI num).toNat den.toNat)
    rwa [hb] at this
  refine ⟨?_, h2⟩
  unfold gcdI
  exact Int.dvd_natAbs.1 h1
theorem mean_fact {zs : List Int} (hr : resB zs = true) (h : meanE zs = 0) : sumL zs * meanD zs = meanN zs * zs.length := by
  obtain ⟨h0, h1, h2⟩ := resB_iff.1 hr
  unfold meanE meanD meanN at *
  rw [if_pos hr] at h ⊢
  rw [if_pos hr]
  unfold redE at h
  by_cases hi : isR (redP (sumL zs) zs.length) (redQ (sumL zs) zs.length) = true
  · unfold redD redN
    rw [if_pos hi, if_pos hi]
    obtain ⟨d1, d2⟩ := gcd_dvd (num := sumL zs) (den := (zs.length : Int)) (by omega)
    have hg := gcd_pos (a := absI (sumL zs)) (b := (zs.length : Int)) (by omega)
    unfold redP redQ
    obtain ⟨p, hp⟩ := d1
    obtain ⟨q, hq⟩ := d2
    generalize gcdI (absI (sumL zs)) zs.length = g at *
    generalize (zs.length : Int) = n at *
    rw [hp, hq, Int.mul_tdiv_cancel_left _ (by omega), Int.mul_ediv_cancel_left _ (by omega)]
    grind
  · rw [if_neg hi] at h; simp at h
theorem bal_last {zs : List Int} (hr : resB zs = true) : (balV zs).length = zs.length ∧ (balV zs)[zs.length - 1]? = some (sumL zs) := by
  obtain ⟨h0, h1, h2⟩ := resB_iff.1 hr
  unfold balV
  rw [if_pos hr]
  refine ⟨by rw [List.length_drop, balL_len]; omega, ?_⟩
  rw [List.getElem?_drop, show 1 + (zs.length - 1) = zs.length from by omega]
  have := balTo_get zs zs.length
  rw [List.take_length] at this
  exact this
theorem mean_bounds {zs : List Int} (hr : resB zs = true) (h : meanE zs = 0) : -1000000000000 ≤ meanN zs * zs.length ∧ meanN zs * zs.length ≤ 1000000000000 := by
  obtain ⟨h0, h1, h2⟩ := resB_iff.1 hr
  unfold meanE meanN at *
  rw [if_pos hr] at h ⊢
  unfold redE at h
  by_cases hi : isR (redP (sumL zs) zs.length) (redQ (sumL zs) zs.length) = true
  · unfold redN
    rw [if_pos hi]
    obtain ⟨a0, a1, -⟩ := isR_iff.1 hi
    generalize redP (sumL zs) zs.length = p at *
    have h3 : ((zs.length : Nat) : Int) ≤ 100 := by omega
    have h4 : 0 ≤ ((zs.length : Nat) : Int) := by omega
    generalize ((zs.length : Nat) : Int) = n at *
    have e1 : (p + 1000000000) * n ≥ 0 := Int.mul_nonneg (by omega) h4
    have e2 : (1000000000 - p) * n ≥ 0 := Int.mul_nonneg (by omega) h4
    rw [Int.add_mul] at e1
    rw [Int.sub_mul] at e2
    omega
  · rw [if_neg hi] at h; simp at h
end Go.Proofs.Ytcdianhemnpmcaa
