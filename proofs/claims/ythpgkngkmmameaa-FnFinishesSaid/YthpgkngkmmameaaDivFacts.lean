/-
  What is divided adds up, and nobody gets a unit less or more than the exact share. No program stands here.
-/
import Derived.Test.YthpgkngkmmameaaPlainDiv
namespace Go.Proofs.Ythpgkngkmmameaa
set_option linter.unusedVariables false
theorem sumD_from (l : List Int) : ∀ s : Int, l.foldl (· + ·) s = s + sumD l := by
  unfold sumD
  induction l with
  | nil => intro s; simp
  | cons x l ih => intro s; rw [List.foldl_cons, ih, List.foldl_cons, ih (0 + x)]; omega
theorem sumD_nil : sumD [] = 0 := rfl
theorem sumD_cons (x : Int) (l : List Int) : sumD (x :: l) = x + sumD l := by
  show (x :: l).foldl (· + ·) 0 = _
  rw [List.foldl_cons, sumD_from]; omega
theorem sumD_app (a b : List Int) : sumD (a ++ b) = sumD a + sumD b := by
  induction a with
  | nil => simp [sumD_nil]
  | cons x a ih => rw [List.cons_append, sumD_cons, sumD_cons, ih]; omega
theorem sumD_set (l : List Int) (i : Nat) (v : Int) (h : i < l.length) : sumD (l.set i v) = sumD l - l.getD i 0 + v := by
  induction l generalizing i with
  | nil => simp at h
  | cons x l ih =>
    cases i with
    | zero => simp only [List.set_cons_zero, sumD_cons, List.getD_cons_zero]; omega
    | succ i =>
      simp only [List.set_cons_succ, sumD_cons, List.getD_cons_succ]
      rw [ih i (by simpa using h)]; omega
theorem sumD_nonneg {l : List Int} (h : ∀ x ∈ l, 0 ≤ x) : 0 ≤ sumD l := by
  induction l with
  | nil => simp [sumD_nil]
  | cons x l ih =>
    have := h x (by simp)
    have := ih (fun y hy => h y (by simp [hy]))
    rw [sumD_cons]; omega
theorem sumD_mul (u : Int) (ws : List Int) : sumD (ws.map fun x => u * x) = u * sumD ws := by
  induction ws with
  | nil => simp [sumD_nil]
  | cons x l ih => rw [List.map_cons, sumD_cons, sumD_cons, ih, Int.mul_add]
/-- u w = T (u w / T) + u w % T, added up. -/
theorem sum_parts (u T : Int) (ws : List Int) : u * sumD ws = T * sumD (floorL u T ws) + sumD (restL u T ws) := by
  induction ws with
  | nil => simp [sumD_nil, floorL, restL]
  | cons x l ih =>
    have e := Int.mul_ediv_add_emod (u * x) T
    unfold floorL restL at *
    rw [List.map_cons, List.map_cons, sumD_cons, sumD_cons, sumD_cons, Int.mul_add, Int.mul_add, ih]
    omega
/-- How many are greater than 0. -/
def posN (r : List Int) : Nat := (r.filter fun x => decide (0 < x)).length
theorem posN_cons (x : Int) (l : List Int) : posN (x :: l) = (if 0 < x then 1 else 0) + posN l := by
  unfold posN
  rw [List.filter_cons]
  by_cases h : 0 < x <;> simp [h]; omega
theorem posN_set {r : List Int} {i : Nat} (hi : i < r.length) (hp : 0 < r.getD i 0) : posN (r.set i (-1)) + 1 = posN r := by
  induction r generalizing i with
  | nil => simp at hi
  | cons x l ih =>
    cases i with
    | zero =>
      simp only [List.getD_cons_zero] at hp
      simp only [List.set_cons_zero, posN_cons, if_pos hp]
      simp; omega
    | succ i =>
      simp only [List.getD_cons_succ] at hp
      simp only [List.set_cons_succ, posN_cons]
      have := ih (by simpa using hi) hp
      omega
theorem posN_some {r : List Int} (h : 0 < posN r) : ∃ j, j < r.length ∧ 0 < r.getD j 0 := by
  induction r with
  | nil => simp [posN] at h
  | cons x l ih =>
    by_cases hx : 0 < x
    · exact ⟨0, by simp, by simpa using hx⟩
    · rw [posN_cons, if_neg hx] at h
      obtain ⟨j, h1, h2⟩ := ih (by omega)
      exact ⟨j + 1, by simpa using h1, by simpa using h2⟩
theorem amaxL_pos {r : List Int} (h : 0 < posN r) : amaxL r < r.length ∧ 0 < r.getD (amaxL r) 0 := by
  obtain ⟨j, h1, h2⟩ := posN_some h
  have := amaxTo_ge r (r.length - 1) j (by omega)
  exact ⟨amaxL_lt (by omega), by unfold amaxL; omega⟩
/-- The rests are below T: at least as many are greater than 0 as there are T in their sum. -/
theorem posN_sum {T : Int} (hT : 0 < T) {r : List Int} (h : ∀ x ∈ r, 0 ≤ x ∧ x < T) : sumD r ≤ T * posN r := by
  induction r with
  | nil => simp [sumD_nil, posN]
  | cons x l ih =>
    have h1 := h x (by simp)
    have h2 := ih (fun y hy => h y (by simp [hy]))
    rw [sumD_cons, posN_cons]
    by_cases hx : 0 < x
    · rw [if_pos hx, Int.natCast_add, Int.mul_add]; simp; omega
    · rw [if_neg hx]; simp; omega
/-- The invariant of giving out. -/
structure Given (p q : List Int × List Int) (k : Nat) : Prop where
  len1 : q.1.length = p.1.length
  len2 : q.2.length = p.2.length
  sum : sumD q.1 = sumD p.1 + k
  pos : posN q.2 + k = posN p.2
  cell : ∀ i, i < p.1.length → (q.1.getD i 0 = p.1.getD i 0 ∧ q.2.getD i 0 = p.2.getD i 0) ∨ (q.1.getD i 0 = p.1.getD i 0 + 1 ∧ q.2.getD i 0 = -1 ∧ 0 < p.2.getD i 0)
theorem getD_set_same {l : List Int} {i : Nat} (h : i < l.length) (v : Int) : (l.set i v).getD i 0 = v := by simp [List.getD, h]
theorem getD_set_ne {l : List Int} {i j : Nat} (h : i ≠ j) (v : Int) : (l.set i v).getD j 0 = l.getD j 0 := by simp [List.getD, List.getElem?_set_ne h]
theorem given_all {p : List Int × List Int} (hl : p.1.length = p.2.length) : ∀ k, k ≤ posN p.2 → Given p (giveK k p) k := by
  intro k
  induction k with
  | zero => intro _; exact ⟨rfl, rfl, by simp [giveK], by simp [giveK], fun i hi => .inl ⟨rfl, rfl⟩⟩
  | succ k ih =>
    intro hk
    have g := ih (by omega)
    have hp : 0 < posN (giveK k p).2 := by have := g.pos; omega
    obtain ⟨m1, m2⟩ := amaxL_pos hp
    have m3 : amaxL (giveK k p).2 < (giveK k p).1.length := by have := g.len1; have := g.len2; omega
    refine ⟨giveK_len1 _ _, giveK_len2 _ _, ?_, ?_, fun i hi => ?_⟩
    · simp only [giveK, giveS]
      rw [sumD_set _ _ _ m3, g.sum]; omega
    · simp only [giveK, giveS]
      have := posN_set m1 m2
      have := g.pos
      omega
    · simp only [giveK, giveS]
      by_cases hi' : amaxL (giveK k p).2 = i
      · subst hi'
        rw [getD_set_same m3, getD_set_same m1]
        rcases g.cell _ hi with ⟨c1, c2⟩ | ⟨c1, c2, c3⟩
        · exact .inr ⟨by omega, rfl, by omega⟩
        · omega
      · rw [getD_set_ne hi', getD_set_ne hi']
        exact g.cell i hi
/-- The law of division: weights of at least 0, one of them greater. -/
theorem div_law {u : Int} {ws : List Int} (hu : 0 ≤ u) (hw : ∀ x ∈ ws, 0 ≤ x) (hT : 0 < sumD ws) :
    sumD (divV u ws) = u ∧ 0 ≤ leftD u ws ∧ ∀ i, i < ws.length → u * ws.getD i 0 - sumD ws < (divV u ws).getD i 0 * sumD ws ∧ (divV u ws).getD i 0 * sumD ws < u * ws.getD i 0 + sumD ws := by
  have hr : ∀ x ∈ restL u (sumD ws) ws, 0 ≤ x ∧ x < sumD ws := by
    intro x hx
    unfold restL at hx
    obtain ⟨y, hy, rfl⟩ := List.mem_map.1 hx
    exact ⟨Int.emod_nonneg _ (by omega), Int.emod_lt_of_pos _ hT⟩
  have hs := sum_parts u (sumD ws) ws
  have hp := posN_sum hT hr
  have h0 := sumD_nonneg (fun x hx => (hr x hx).1)
  have e1 : sumD ws * leftD u ws = sumD (restL u (sumD ws) ws) := by
    unfold leftD
    rw [Int.mul_sub, Int.mul_comm (sumD ws) u]; omega
  have hl0 : 0 ≤ leftD u ws := by
    rcases Int.lt_or_le (leftD u ws) 0 with h | h
    · have := Int.mul_neg_of_pos_of_neg hT h; omega
    · exact h
  have hl1 : leftD u ws ≤ posN (restL u (sumD ws) ws) := Int.le_of_mul_le_mul_left (by omega) hT
  have hlen : (floorL u (sumD ws) ws).length = (restL u (sumD ws) ws).length := by simp [floorL, restL]
  have g := given_all (p := (floorL u (sumD ws) ws, restL u (sumD ws) ws)) hlen (leftD u ws).toNat (by show (leftD u ws).toNat ≤ posN (restL u (sumD ws) ws); omega)
  have gs := g.sum
  refine ⟨?_, hl0, fun i hi => ?_⟩
  · show sumD (giveK _ _).1 = u
    rw [gs]
    show sumD (floorL u (sumD ws) ws) + _ = u
    unfold leftD at hl0 ⊢
    omega
  · have gc := g.cell i (by simpa [floorL] using hi)
    have ef : (floorL u (sumD ws) ws).getD i 0 = u * ws.getD i 0 / sumD ws := by simp [floorL, List.getD, List.getElem?_eq_getElem hi]
    have er : (restL u (sumD ws) ws).getD i 0 = u * ws.getD i 0 % sumD ws := by simp [restL, List.getD, List.getElem?_eq_getElem hi]
    have ee := Int.mul_ediv_add_emod (u * ws.getD i 0) (sumD ws)
    have e0 := Int.emod_nonneg (u * ws.getD i 0) (show sumD ws ≠ 0 by omega)
    have e2 := Int.emod_lt_of_pos (u * ws.getD i 0) hT
    rw [Int.mul_comm (sumD ws)] at ee
    change (giveK _ _).1.getD i 0 = (floorL u (sumD ws) ws).getD i 0 ∧ _ = (restL u (sumD ws) ws).getD i 0 ∨ (giveK _ _).1.getD i 0 = (floorL u (sumD ws) ws).getD i 0 + 1 ∧ _ ∧ 0 < (restL u (sumD ws) ws).getD i 0 at gc
    rw [ef, er] at gc
    unfold divV
    rcases gc with ⟨c1, -⟩ | ⟨c1, -, c3⟩
    · rw [c1]; omega
    · rw [c1, Int.add_mul]; omega
end Go.Proofs.Ythpgkngkmmameaa
