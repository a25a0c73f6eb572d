/-
  Plain facts on payouts: they add up to the pool, and none is greater than the one before it. No program stands here.
-/
import Derived.Test.YthpgkngkmmameaaPlainPay
import Derived.Test.YthpgkngkmmameaaDesc
namespace Go.Proofs.Ythpgkngkmmameaa
set_option linter.unusedVariables false
theorem bumpK_get {l : List Int} {n : Nat} (hn : l.length = n) : ∀ k, k ≤ n → ∀ i, i < n → (bumpK n k l).getD i 0 = l.getD i 0 + if i < k then 1 else 0 := by
  intro k
  induction k with
  | zero => intro _ i _; simp [bumpK]
  | succ k ih =>
    intro hk i hi
    simp only [bumpK]
    rw [Nat.mod_eq_of_lt (show k < n by omega)]
    by_cases h : k = i
    · subst h
      rw [getD_set_same (by rw [bumpK_len]; omega), ih (by omega) k hi, if_neg (by omega), if_pos (by omega)]
      omega
    · rw [getD_set_ne h, ih (by omega) i hi]
      by_cases h2 : i < k
      · rw [if_pos h2, if_pos (by omega)]
      · rw [if_neg h2, if_neg (by omega)]
theorem bumpK_sum {l : List Int} {n : Nat} (hn : l.length = n) (h0 : 0 < n) (k : Nat) : sumD (bumpK n k l) = sumD l + k := by
  induction k with
  | zero => simp [bumpK]
  | succ k ih =>
    simp only [bumpK]
    rw [sumD_set _ _ _ (by rw [bumpK_len, hn]; exact Nat.mod_lt _ h0), ih]
    omega
theorem floor_all (u : Int) : ∀ S : List Int, 1000 * sumD (payF u S) ≤ u * sumD S ∧ u * sumD S ≤ 1000 * sumD (payF u S) + 999 * S.length
  | [] => by simp [payF, sumD_nil]
  | x :: S => by
    have ih := floor_all u S
    rw [show payF u (x :: S) = u * x / 1000 :: payF u S from rfl, sumD_cons, sumD_cons, List.length_cons, Int.mul_add u x]
    push_cast
    omega
theorem pay_law {u : Int} {S : List Int} (h0 : 0 ≤ u) (h1 : u ≤ 1000000) (hl : 1 ≤ S.length) (hS : ∀ x ∈ S, 1 ≤ x ∧ x ≤ 1000) (hd : descB S = true) (hs : sumD S = 1000) :
    sumD (payL u S) = u ∧ (∀ x ∈ payL u S, 0 ≤ x ∧ x ≤ 2000000) ∧ ∀ i, 0 < i → i < S.length → (payL u S).getD i 0 ≤ (payL u S).getD (i - 1) 0 := by
  obtain ⟨f1, f2⟩ := floor_all u S
  rw [hs] at f1 f2
  have hleft : 0 ≤ payLeft u S ∧ payLeft u S < S.length := by unfold payLeft; omega
  have hbd := payF_bd h0 h1 hS
  have hsn := sumD_nonneg (l := payF u S) (fun x hx => (hbd x hx).1)
  refine ⟨?_, ?_, ?_⟩
  · unfold payL
    rw [bumpK_sum (payF_len u S) (by omega)]
    unfold payLeft at *
    omega
  · have := bumpK_bd (l := payF u S) (lo := 0) (hi := 1000000) hbd (by rw [payF_len]; omega) (payLeft u S).toNat
    rw [payF_len] at this
    intro x hx
    have := this x hx
    unfold payLeft at *
    omega
  · intro i hi hil
    unfold payL
    rw [bumpK_get (payF_len u S) _ (by omega) i hil, bumpK_get (payF_len u S) _ (by omega) (i - 1) (by omega)]
    have e1 : (payF u S).getD i 0 = u * S.getD i 0 / 1000 := by simp [payF, List.getD, hil]
    have e2 : (payF u S).getD (i - 1) 0 = u * S.getD (i - 1) 0 / 1000 := by simp [payF, List.getD, show i - 1 < S.length by omega]
    have hle := descB_le hd i hi hil
    have hm : u * S.getD i 0 ≤ u * S.getD (i - 1) 0 := Int.mul_le_mul_of_nonneg_left hle h0
    rw [e1, e2]
    by_cases h2 : i < (payLeft u S).toNat
    · rw [if_pos h2, if_pos (by omega)]; omega
    · rw [if_neg h2]
      split <;> omega
end Go.Proofs.Ythpgkngkmmameaa
