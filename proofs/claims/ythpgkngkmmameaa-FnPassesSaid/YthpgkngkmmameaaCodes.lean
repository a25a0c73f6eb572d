/-
  Plain facts of the codes: a commitment is a square; a card's code is a square and leads back to the card. Conditions: none.
-/
import Derived.Test.YthpgkngkmmameaaCryptOpen
namespace Go.Proofs.Ythpgkngkmmameaa
open Go.RowKit
set_option linter.unusedVariables false
theorem code_back_nat : ∀ k : Nat, k < 52 → cardI (codeI k) = k ∧ inB (codeI k) 1 2038 = true ∧ isSq (codeI k) = true := by decide +kernel
theorem code_back {c : Int} (h : inB c 0 51 = true) : codeV c = codeI c ∧ codeE c = 0 ∧ cardV (codeI c) = c ∧ cardE (codeI c) = 0 ∧ isSq (codeI c) = true := by
  obtain ⟨h0, h1⟩ := inB_iff.1 h
  obtain ⟨k, rfl⟩ : ∃ k : Nat, c = k := ⟨c.toNat, by omega⟩
  obtain ⟨a, b, d⟩ := code_back_nat k (by omega)
  refine ⟨by simp [codeV, h], by simp [codeE, h], ?_, ?_, d⟩
  · unfold cardV; rw [a, if_pos ⟨b, by omega⟩]
  · unfold cardE; rw [a, if_pos b, if_neg (by omega)]
theorem isSq_four_nine : isSq 4 = true ∧ isSq 9 = true := by decide +kernel
theorem isSq_mul {x y : Int} (hx : isSq x = true) (hy : isSq y = true) : isSq (x * y % 2039) = true := by
  obtain ⟨a1, a2, a3⟩ := isSq_nat hx
  obtain ⟨b1, b2, b3⟩ := isSq_nat hy
  obtain ⟨q, hq⟩ : ∃ q, (1019 : Int).toNat = q := ⟨_, rfl⟩
  have hq0 : q ≠ 0 := by omega
  obtain ⟨m, rfl⟩ : ∃ m : Nat, x = m := ⟨x.toNat, by omega⟩
  obtain ⟨n, rfl⟩ : ∃ n : Nat, y = n := ⟨y.toNat, by omega⟩
  have h1 := a3 q hq
  have h2 := b3 q hq
  rw [Int.toNat_natCast] at h1 h2
  have hp : (m : Int) * (n : Int) % 2039 = ((m * n % 2039 : Nat) : Int) := by omega
  have h5 : (m * n % 2039) ^ q % 2039 = 1 := by
    rw [← Nat.pow_mod, Nat.mul_pow, Nat.mul_mod, h1, h2]
  have hlt : m * n % 2039 < 2039 := Nat.mod_lt _ (by decide)
  have h0 : m * n % 2039 ≠ 0 := by
    intro h
    rw [h, Nat.zero_pow (by omega)] at h5
    simp at h5
  rw [hp]
  exact isSq_of (by omega) (by omega) q hq (by rw [Int.toNat_natCast]; exact h5)
theorem com_square {m r : Int} (h1 : inB m 0 1018 = true) (h2 : inB r 0 1018 = true) : comE m r = 0 ∧ isSq (comV m r) = true := by
  refine ⟨by simp [comE, h1, h2], ?_⟩
  unfold comV
  rw [if_pos ⟨h1, h2⟩]
  exact isSq_mul (isSq_pw m isSq_four_nine.1) (isSq_pw r isSq_four_nine.2)
theorem com_not {m r : Int} (h : ¬ (inB m 0 1018 = true ∧ inB r 0 1018 = true)) : comE m r = 2 := by simp [comE, h]
theorem code_not {c : Int} (h : inB c 0 51 = false) : codeE c = 2 := by simp [codeE, h]
end Go.Proofs.Ythpgkngkmmameaa
