/-
  Division by weights of 1: the first ones get the units that are left. No program stands here.
-/
import Derived.Test.YthpgkngkmmameaaDivFacts
namespace Go.Proofs.Ythpgkngkmmameaa
set_option linter.unusedVariables false
theorem sumD_ones (n : Nat) : sumD (List.replicate n 1) = n := by
  induction n with
  | zero => rfl
  | succ n ih => rw [List.replicate_succ, sumD_cons, ih]; omega
theorem sumD_rep (n : Nat) (q : Int) : sumD (List.replicate n q) = n * q := by
  induction n with
  | zero => simp [sumD_nil]
  | succ n ih => rw [List.replicate_succ, sumD_cons, ih, Int.natCast_add, Int.add_mul]; simp; omega
/-- u over n: the first u mod n have one more. -/
def flatL (u : Int) (n : Nat) : List Int := (List.range n).map fun (i : Nat) => u / n + if (i : Int) < u % n then 1 else 0
theorem getD_rep {n i : Nat} (h : i < n) (q : Int) : (List.replicate n q).getD i 0 = q := by simp [List.getD, h]
theorem getD_two {k m i : Nat} (a b : Int) (h : i < k + m) : (List.replicate k a ++ List.replicate m b).getD i 0 = if i < k then a else b := by
  by_cases hi : i < k
  · rw [if_pos hi]
    simp [List.getD, List.getElem?_append_left, hi]
  · rw [if_neg hi]
    simp [List.getD, List.getElem?_append_right, Nat.not_lt.1 hi, show i - k < m from by omega]
theorem amax_two {k m : Nat} {r : Int} (hr : 0 ≤ r) (hm : 0 < m) : amaxL (List.replicate k (-1) ++ List.replicate m r) = k := by
  apply amaxL_uniq
  · simp; omega
  · intro j hj
    simp at hj
    rw [getD_two _ _ (by omega), getD_two _ _ (by omega), if_neg (Nat.lt_irrefl k)]
    split <;> omega
  · intro j hj
    rw [getD_two _ _ (by omega), getD_two _ _ (by omega), if_neg (Nat.lt_irrefl k), if_pos hj]
    omega
theorem set_two {k m : Nat} (a b : Int) (hm : 0 < m) : (List.replicate k a ++ List.replicate m b).set k a = List.replicate (k + 1) a ++ List.replicate (m - 1) b := by
  obtain ⟨m, rfl⟩ : ∃ x, m = x + 1 := ⟨m - 1, by omega⟩
  rw [List.set_append_right _ _ (by simp), List.length_replicate, Nat.sub_self, List.replicate_succ, List.set_cons_zero, List.replicate_succ']
  simp
theorem give_flat {n : Nat} {q r : Int} (hr : 0 ≤ r) : ∀ k, k ≤ n → giveK k (List.replicate n q, List.replicate n r) = (List.replicate k (q + 1) ++ List.replicate (n - k) q, List.replicate k (-1) ++ List.replicate (n - k) r) := by
  intro k
  induction k with
  | zero => intro _; simp [giveK]
  | succ k ih =>
    intro hk
    rw [giveK, ih (by omega)]
    unfold giveS
    simp only
    rw [amax_two hr (by omega), getD_two _ _ (by omega), if_neg (Nat.lt_irrefl k), set_two _ _ (by omega), set_two _ _ (by omega)]
    simp [Nat.sub_sub]
theorem flat_law {u : Int} {n : Nat} (hu : 0 ≤ u) (hn : 0 < n) : divV u (List.replicate n 1) = flatL u n := by
  have h0 := Int.emod_nonneg u (show (n : Int) ≠ 0 by omega)
  have h1 := Int.emod_lt_of_pos u (show (0 : Int) < n by omega)
  have e := Int.mul_ediv_add_emod u n
  have hl : leftD u (List.replicate n 1) = u % n := by
    unfold leftD floorL
    rw [sumD_ones, List.map_replicate, sumD_rep, Int.mul_one]; omega
  unfold divV
  rw [hl]
  unfold floorL restL
  rw [sumD_ones, List.map_replicate, List.map_replicate, Int.mul_one, give_flat h0 _ (by omega)]
  apply List.ext_getElem?
  intro i
  unfold flatL
  simp only
  by_cases hi : i < n
  · have h2 : i < (u % n).toNat + (n - (u % n).toNat) := by omega
    have := getD_two (k := (u % n).toNat) (m := n - (u % n).toNat) (u / n + 1) (u / n) h2
    have h3 : i < (List.replicate (u % n).toNat (u / n + 1) ++ List.replicate (n - (u % n).toNat) (u / n)).length := by simp; omega
    rw [get_getD h3, this, List.getElem?_map, List.getElem?_range hi]
    simp only [Option.map_some, Option.some.injEq]
    by_cases hc : (i : Int) < u % n
    · rw [if_pos hc, if_pos (by omega)]
    · rw [if_neg hc, if_neg (by omega)]; omega
  · rw [List.getElem?_eq_none (by simp; omega), List.getElem?_eq_none (by simp; omega)]
end Go.Proofs.Ythpgkngkmmameaa
