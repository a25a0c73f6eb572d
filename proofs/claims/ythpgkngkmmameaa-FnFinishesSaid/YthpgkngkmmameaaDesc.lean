/-
  A list of which none is greater than the one before it. Conditions: none.
-/
import Derived.Test.YthpgkngkmmameaaSums
namespace Go.Proofs.Ythpgkngkmmameaa
open Go.RowKit
set_option linter.unusedVariables false
/-- None is greater than the one before it, among the first k. -/
def descTo (zs : List Int) : Nat → Bool
  | 0 => true
  | k + 1 => descTo zs k && decide (k = 0 ∨ zs.getD k 0 ≤ zs.getD (k - 1) 0)
def descB (zs : List Int) : Bool := descTo zs zs.length
theorem descTo_no {zs : List Int} {k n : Nat} (h : descTo zs k = false) (hn : k ≤ n) : descTo zs n = false := by
  induction n with
  | zero => obtain rfl : k = 0 := by omega
            exact h
  | succ n ih =>
    by_cases hk : k = n + 1
    · subst hk; exact h
    · unfold descTo; rw [ih (by omega)]; rfl
theorem desc_step {zs : List Int} {k : Nat} {x y : Int} (h : descTo zs k = true) (hk : k = 0 ∨ 0 < k) (hx : zs[k]? = some x) (hy : 0 < k → zs[k - 1]? = some y) (hxy : 0 < k → x ≤ y) : descTo zs (k + 1) = true := by
  unfold descTo
  rw [h, Bool.true_and, decide_eq_true_eq]
  rcases Nat.eq_zero_or_pos k with h0 | h0
  · exact .inl h0
  · refine .inr ?_
    simp [List.getD, hx, hy h0, hxy h0]
theorem desc_bad {zs : List Int} {k : Nat} {x y : Int} (hk : 0 < k) (hx : zs[k]? = some x) (hy : zs[k - 1]? = some y) (hxy : y < x) : descB zs = false := by
  have hl : k < zs.length := (List.getElem?_eq_some_iff.1 hx).1
  refine descTo_no (k := k + 1) ?_ (by omega)
  unfold descTo
  rw [show decide (k = 0 ∨ zs.getD k 0 ≤ zs.getD (k - 1) 0) = false from decide_eq_false (by simp [List.getD, hx, hy]; omega), Bool.and_false]
theorem descB_le {zs : List Int} (h : descB zs = true) : ∀ k, 0 < k → k < zs.length → zs.getD k 0 ≤ zs.getD (k - 1) 0 := by
  intro k hk hl
  have h1 : descTo zs (k + 1) = true := by
    cases hc : descTo zs (k + 1)
    · have := descTo_no hc (n := zs.length) (by omega)
      unfold descB at h
      rw [this] at h
      cases h
    · rfl
  unfold descTo at h1
  rw [Bool.and_eq_true, decide_eq_true_eq] at h1
  rcases h1.2 with h2 | h2
  · omega
  · exact h2
end Go.Proofs.Ythpgkngkmmameaa
