/-
  Plain facts on division by weights: the greatest remainders get what is left. No program stands here.
-/
import Derived.Test.YthpgkngkmmameaaRows
namespace Go.Proofs.Ythpgkngkmmameaa
/-- The first index of the greatest of r 0 .. r k. -/
def amaxTo (r : List Int) : Nat → Nat
  | 0 => 0
  | k + 1 => if r.getD (amaxTo r k) 0 < r.getD (k + 1) 0 then k + 1 else amaxTo r k
def amaxL (r : List Int) : Nat := amaxTo r (r.length - 1)
theorem amaxTo_le (r : List Int) (k : Nat) : amaxTo r k ≤ k := by
  induction k with
  | zero => exact Nat.le_refl _
  | succ k ih => unfold amaxTo; split <;> omega
theorem amaxL_lt {r : List Int} (h : 0 < r.length) : amaxL r < r.length := by
  have := amaxTo_le r (r.length - 1)
  unfold amaxL; omega
theorem amaxTo_ge (r : List Int) (k : Nat) : ∀ j, j ≤ k → r.getD j 0 ≤ r.getD (amaxTo r k) 0 := by
  induction k with
  | zero => intro j hj; obtain rfl : j = 0 := by omega
            exact Int.le_refl _
  | succ k ih =>
    intro j hj
    unfold amaxTo
    split
    · next h =>
      by_cases hjk : j = k + 1
      · subst hjk; exact Int.le_refl _
      · have := ih j (by omega); omega
    · next h =>
      by_cases hjk : j = k + 1
      · subst hjk; omega
      · exact ih j (by omega)
theorem amaxTo_gt (r : List Int) (k : Nat) : ∀ j, j < amaxTo r k → r.getD j 0 < r.getD (amaxTo r k) 0 := by
  induction k with
  | zero => intro j hj; unfold amaxTo at hj; omega
  | succ k ih =>
    intro j hj
    unfold amaxTo at hj ⊢
    split at hj
    · next h =>
      rw [if_pos h]
      have := amaxTo_ge r k j (by omega)
      omega
    · next h =>
      rw [if_neg h]
      exact ih j hj
/-- The first index of the greatest one is known by these. -/
theorem amaxL_uniq {r : List Int} {i : Nat} (hi : i < r.length) (h1 : ∀ j, j < r.length → r.getD j 0 ≤ r.getD i 0) (h2 : ∀ j, j < i → r.getD j 0 < r.getD i 0) : amaxL r = i := by
  have h0 : 0 < r.length := by omega
  have hm := amaxL_lt h0
  have a1 : ∀ j, j < r.length → r.getD j 0 ≤ r.getD (amaxL r) 0 := fun j hj => amaxTo_ge r (r.length - 1) j (by omega)
  have a2 : ∀ j, j < amaxL r → r.getD j 0 < r.getD (amaxL r) 0 := fun j hj => amaxTo_gt r (r.length - 1) j hj
  rcases Nat.lt_trichotomy (amaxL r) i with h | h | h
  · have := h2 _ h; have := a1 i hi; omega
  · exact h
  · have := a2 _ h; have := h1 _ hm; omega
/-- One unit goes to the greatest remainder. -/
def giveS (p : List Int × List Int) : List Int × List Int :=
  (p.1.set (amaxL p.2) (p.1.getD (amaxL p.2) 0 + 1), p.2.set (amaxL p.2) (-1))
def giveK : Nat → List Int × List Int → List Int × List Int
  | 0, p => p
  | k + 1, p => giveS (giveK k p)
theorem giveK_len (k : Nat) (p : List Int × List Int) : (giveK k p).1.length = p.1.length ∧ (giveK k p).2.length = p.2.length := by
  induction k with
  | zero => exact ⟨rfl, rfl⟩
  | succ k ih => simp [giveK, giveS, ih]
theorem giveK_len1 (k : Nat) (p : List Int × List Int) : (giveK k p).1.length = p.1.length := (giveK_len k p).1
theorem giveK_len2 (k : Nat) (p : List Int × List Int) : (giveK k p).2.length = p.2.length := (giveK_len k p).2
theorem getD_mem {l : List Int} {j : Nat} (h : j < l.length) : l.getD j 0 ∈ l := by
  simp [List.getD, List.getElem?_eq_getElem h]
theorem get_getD {l : List Int} {j : Nat} (h : j < l.length) : l[j]? = some (l.getD j 0) := by
  simp [List.getD, List.getElem?_eq_getElem h]
theorem giveK_bd {p : List Int × List Int} {lo hi : Int} (hp : ∀ x ∈ p.1, lo ≤ x ∧ x ≤ hi) (hlen : p.1.length = p.2.length) (h0 : 0 < p.2.length) (k : Nat) : ∀ x ∈ (giveK k p).1, lo ≤ x ∧ x ≤ hi + k := by
  induction k with
  | zero => intro x hx; have := hp x hx; omega
  | succ k ih =>
    intro x hx
    simp only [giveK, giveS] at hx
    rcases List.mem_or_eq_of_mem_set hx with h | h
    · have := ih x h; omega
    · have hl := giveK_len k p
      have hm : amaxL (giveK k p).2 < (giveK k p).1.length := by have := amaxL_lt (r := (giveK k p).2) (by omega); omega
      have := ih _ (getD_mem hm)
      omega
def floorL (u T : Int) (ws : List Int) : List Int := ws.map fun x => u * x / T
def restL (u T : Int) (ws : List Int) : List Int := ws.map fun x => u * x % T
def sumD (zs : List Int) : Int := zs.foldl (· + ·) 0
def leftD (u : Int) (ws : List Int) : Int := u - sumD (floorL u (sumD ws) ws)
/-- u divided by the weights ws. -/
def divV (u : Int) (ws : List Int) : List Int := (giveK (leftD u ws).toNat (floorL u (sumD ws) ws, restL u (sumD ws) ws)).1
theorem divV_len (u : Int) (ws : List Int) : (divV u ws).length = ws.length := by
  unfold divV; rw [giveK_len1]; simp [floorL]
end Go.Proofs.Ythpgkngkmmameaa
