/-
  Plain facts on payouts: shares of the pool, rounded down; what is left goes to the places in turn, one each. No program stands here.
-/
import Derived.Test.YthpgkngkmmameaaDivFacts
namespace Go.Proofs.Ythpgkngkmmameaa
set_option linter.unusedVariables false
def payF (u : Int) (S : List Int) : List Int := S.map fun x => u * x / 1000
def bumpK (n : Nat) : Nat → List Int → List Int
  | 0, l => l
  | k + 1, l => (bumpK n k l).set (k % n) ((bumpK n k l).getD (k % n) 0 + 1)
def payLeft (u : Int) (S : List Int) : Int := u - sumD (payF u S)
def payL (u : Int) (S : List Int) : List Int := bumpK S.length (payLeft u S).toNat (payF u S)
theorem bumpK_len (n k : Nat) (l : List Int) : (bumpK n k l).length = l.length := by
  induction k with
  | zero => rfl
  | succ k ih => simp [bumpK, ih]
theorem payF_len (u : Int) (S : List Int) : (payF u S).length = S.length := by simp [payF]
theorem payF_get {u : Int} {S : List Int} {k : Nat} {x : Int} (h : S[k]? = some x) : (payF u S)[k]? = some (u * x / 1000) := by simp [payF, h]
theorem payL_len (u : Int) (S : List Int) : (payL u S).length = S.length := by unfold payL; rw [bumpK_len, payF_len]
theorem bumpK_bd {l : List Int} {lo hi : Int} (hl : ∀ x ∈ l, lo ≤ x ∧ x ≤ hi) (hn : 0 < l.length) (k : Nat) : ∀ x ∈ bumpK l.length k l, lo ≤ x ∧ x ≤ hi + k := by
  induction k with
  | zero => intro x hx; have := hl x hx; omega
  | succ k ih =>
    intro x hx
    simp only [bumpK] at hx
    rcases List.mem_or_eq_of_mem_set hx with h | h
    · have := ih x h; omega
    · have hm : k % l.length < (bumpK l.length k l).length := by rw [bumpK_len]; exact Nat.mod_lt _ hn
      have := ih _ (getD_mem hm)
      omega
theorem payF_bd {u : Int} {S : List Int} (h0 : 0 ≤ u) (h1 : u ≤ 1000000) (hS : ∀ x ∈ S, 1 ≤ x ∧ x ≤ 1000) : ∀ x ∈ payF u S, 0 ≤ x ∧ x ≤ 1000000 := by
  intro x hx
  obtain ⟨y, hy, rfl⟩ := List.mem_map.1 hx
  obtain ⟨y0, y1⟩ := hS y hy
  have p0 := Int.mul_nonneg h0 (show 0 ≤ y by omega)
  have p1 : u * y ≤ u * 1000 := Int.mul_le_mul_of_nonneg_left y1 h0
  omega
end Go.Proofs.Ythpgkngkmmameaa
