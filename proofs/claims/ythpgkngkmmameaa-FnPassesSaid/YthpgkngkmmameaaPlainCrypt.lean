/-
  Plain facts for chapter 32 (dealing without a dealer): powers modulo 2039 step by step, the inverse of a key modulo 1019. No program stands here.
-/
import Derived.Test.YthpgkngkmmameaaRows
namespace Go.Proofs.Ythpgkngkmmameaa
theorem toNat_mulmod (a b : Nat) : (((a : Int) * (b : Int)) % 2039).toNat = a * b % 2039 := by
  rw [← Int.natCast_mul, show (2039 : Int) = ((2039 : Nat) : Int) from rfl, ← Int.natCast_emod, Int.toNat_natCast]
theorem pm_nat (x k : Nat) : (x * x % 2039) ^ k % 2039 = x ^ (2 * k) % 2039 := by
  rw [← Nat.pow_mod, Nat.mul_pow, ← Nat.pow_add, Nat.two_mul]
theorem pm_even (p x n : Int) (hp : 0 ≤ p) (hx : 0 ≤ x) (hn : 0 < n) (ho : n % 2 = 0) :
    p.toNat * (x * x % 2039).toNat ^ (n / 2).toNat % 2039 = p.toNat * x.toNat ^ n.toNat % 2039 := by
  obtain ⟨p, rfl⟩ := Int.eq_ofNat_of_zero_le hp
  obtain ⟨x, rfl⟩ := Int.eq_ofNat_of_zero_le hx
  obtain ⟨n, rfl⟩ := Int.eq_ofNat_of_zero_le (Int.le_of_lt hn)
  have hk : n = 2 * (n / 2) := by omega
  have h2 : ((n : Int) / 2).toNat = n / 2 := by omega
  rw [toNat_mulmod, h2, Int.toNat_natCast, Int.toNat_natCast, Int.toNat_natCast]
  rw [Nat.mul_mod, pm_nat x, ← hk, ← Nat.mul_mod]
theorem pm_odd (p x n : Int) (hp : 0 ≤ p) (hx : 0 ≤ x) (hn : 0 < n) (ho : n % 2 = 1) :
    (p * x % 2039).toNat * (x * x % 2039).toNat ^ (n / 2).toNat % 2039 = p.toNat * x.toNat ^ n.toNat % 2039 := by
  obtain ⟨p, rfl⟩ := Int.eq_ofNat_of_zero_le hp
  obtain ⟨x, rfl⟩ := Int.eq_ofNat_of_zero_le hx
  obtain ⟨n, rfl⟩ := Int.eq_ofNat_of_zero_le (Int.le_of_lt hn)
  have hk : n = 2 * (n / 2) + 1 := by omega
  have h2 : ((n : Int) / 2).toNat = n / 2 := by omega
  rw [toNat_mulmod, toNat_mulmod, h2, Int.toNat_natCast, Int.toNat_natCast, Int.toNat_natCast]
  rw [Nat.mul_mod, pm_nat x, Nat.mod_mod, ← Nat.mul_mod]
  conv => rhs; rw [hk, Nat.pow_succ]
  congr 1
  rw [Nat.mul_assoc, Nat.mul_comm x]
def sq0 (k : Nat) : Nat := k * k % 1019
def mu0 (k l : Nat) : Nat := k * l % 1019
def inv2 (k b d e f g h i j : Nat) : Nat := mu0 (mu0 (mu0 (mu0 (mu0 (mu0 (mu0 j i) h) g) f) e) d) (mu0 b k)
def inv1 (k d : Nat) : Nat := inv2 k 1 d (sq0 d) (sq0 (sq0 d)) (sq0 (sq0 (sq0 d))) (sq0 (sq0 (sq0 (sq0 d)))) (sq0 (sq0 (sq0 (sq0 (sq0 d))))) (sq0 (sq0 (sq0 (sq0 (sq0 (sq0 d))))))
def inv0 (k : Nat) : Nat := inv1 k (sq0 (sq0 (sq0 k)))
def invI (key : Int) : Int := ((inv0 key.toNat : Nat) : Int)
theorem inv_all : ∀ k : Nat, k < 1019 → k = 0 ∨ (k * inv0 k % 1019 = 1) := by decide +kernel
theorem inv0_lt (k : Nat) : inv0 k < 1019 := Nat.mod_lt _ (by decide)
theorem invI_pos (key : Int) (h1 : 1 ≤ key) (h2 : key ≤ 1018) : 1 ≤ invI key ∧ invI key ≤ 1018 ∧ key * invI key % 1019 = 1 := by
  obtain ⟨k, rfl⟩ := Int.eq_ofNat_of_zero_le (show 0 ≤ key by omega)
  have h := inv_all k (by omega)
  have hk : k ≠ 0 := by omega
  have h' := h.resolve_left hk
  unfold invI
  rw [Int.toNat_natCast]
  have hlt := inv0_lt k
  generalize inv0 k = m at *
  have : m ≠ 0 := by rintro rfl; simp at h'
  refine ⟨by omega, by omega, ?_⟩
  rw [← Int.natCast_mul]
  omega
theorem invI_least (key i : Int) (h1 : 1 ≤ key) (h2 : key ≤ 1018) (hi : 1 ≤ i) (hi2 : i ≤ invI key) (h : key * i % 1019 = 1) : i = invI key := by
  obtain ⟨a, b, c⟩ := invI_pos key h1 h2
  generalize invI key = m at *
  have e1 : i * (key * m) % 1019 = m * (key * i) % 1019 := by
    rw [← Int.mul_assoc, ← Int.mul_assoc, Int.mul_comm i key, Int.mul_comm m key, Int.mul_assoc, Int.mul_assoc, Int.mul_comm i m]
  rw [Int.mul_emod, c, Int.mul_emod m, h] at e1
  simp at e1
  omega
end Go.Proofs.Ythpgkngkmmameaa
