/-
  Both recursions of the equity are the same. No program stands here.
-/
import Derived.Test.YthpgkngkmmameaaPlainIcm
namespace Go.Proofs.Ythpgkngkmmameaa
set_option linter.unusedVariables false
def idxL (o : List Bool) (n : Nat) : List Nat := (List.range n).filter fun j => !(o.getD j false)
theorem idxL_succ (o : List Bool) (n : Nat) : idxL o (n + 1) = idxL o n ++ (if o.getD n false = true then [] else [n]) := by
  unfold idxL
  rw [List.range_succ, List.filter_append, List.filter_cons, List.filter_nil]
  cases h : o.getD n false <;> simp
theorem rank_eq (o : List Bool) (n : Nat) : rankL o n = (idxL o n).length := rfl
theorem keep_eq (S : List Int) (o : List Bool) : keepL S o = (idxL o S.length).map fun j => S.getD j 0 := rfl
theorem rank_succ (o : List Bool) (n : Nat) : rankL o (n + 1) = rankL o n + (if o.getD n false = true then 0 else 1) := by
  rw [rank_eq, idxL_succ, List.length_append, rank_eq]
  split <;> rfl
theorem rank_mono (o : List Bool) {i j : Nat} (h : i ≤ j) : rankL o i ≤ rankL o j := by
  induction j with
  | zero => obtain rfl : i = 0 := by omega
            exact Nat.le_refl _
  | succ j ih =>
    by_cases hi : i = j + 1
    · subst hi; exact Nat.le_refl _
    · rw [rank_succ]; have := ih (by omega); omega
theorem rank_lt {o : List Bool} {i j : Nat} (hi : o.getD i false = false) (h : i < j) : rankL o i < rankL o j := by
  have := rank_mono o (show i + 1 ≤ j from h)
  rw [rank_succ, hi] at this
  simp at this; omega
theorem idx_map (o : List Bool) (n : Nat) : (idxL o n).map (rankL o) = List.range (idxL o n).length := by
  induction n with
  | zero => rfl
  | succ n ih =>
    rw [idxL_succ]
    split
    · simpa using ih
    · rw [List.map_append, ih, List.length_append, List.map_cons, List.map_nil, List.length_cons, List.length_nil, rank_eq, List.range_succ]
theorem idx_get {o : List Bool} {n i : Nat} (hi : o.getD i false = false) (h : i < n) : (idxL o n)[rankL o i]? = some i := by
  induction n with
  | zero => omega
  | succ n ih =>
    rw [idxL_succ]
    by_cases hin : i = n
    · subst hin
      rw [hi, rank_eq, List.getElem?_append_right (Nat.le_refl _)]
      simp
    · have h1 := ih (by omega)
      rw [List.getElem?_append_left (List.getElem?_eq_some_iff.1 h1).1]
      exact h1
theorem getD_set_ne' {o : List Bool} {i j : Nat} (h : j ≠ i) : (o.set j true).getD i false = o.getD i false := by simp [List.getD, List.getElem?_set_ne h]
theorem idx_far {o : List Bool} {j : Nat} : ∀ n, n ≤ j → idxL (o.set j true) n = idxL o n := by
  intro n hn
  unfold idxL
  apply List.filter_congr
  intro x hx
  rw [List.mem_range] at hx
  rw [getD_set_ne' (by omega)]
theorem idx_erase {o : List Bool} {j : Nat} (hl : j < o.length) (hj : o.getD j false = false) : ∀ n, j < n → idxL (o.set j true) n = (idxL o n).eraseIdx (rankL o j) := by
  intro n
  induction n with
  | zero => intro h; omega
  | succ n ih =>
    intro h
    rw [idxL_succ, idxL_succ]
    by_cases hjn : j = n
    · subst hjn
      rw [idx_far _ (Nat.le_refl _), hj, rank_eq, List.eraseIdx_append_of_length_le (Nat.le_refl _), Nat.sub_self]
      simp [List.getD, hl]
    · have hjn' : j < n := by omega
      rw [ih hjn', getD_set_ne' hjn]
      have := rank_lt hj hjn'
      rw [List.eraseIdx_append_of_lt_length (by rw [rank_eq] at this ⊢; exact this)]
theorem rank_set {o : List Bool} {i j : Nat} (hl : j < o.length) (hj : o.getD j false = false) (hi : o.getD i false = false) (hij : j ≠ i) : rankL (o.set j true) i = dropTo (rankL o i) (rankL o j) := by
  unfold dropTo
  rcases Nat.lt_or_gt_of_ne hij with h | h
  · rw [if_pos (rank_lt hj h), rank_eq, idx_erase hl hj i h, List.length_eraseIdx, if_pos (by rw [← rank_eq]; exact rank_lt hj h), rank_eq]
  · rw [if_neg (by have := rank_lt hi h; omega), rank_eq, idx_far i (by omega), rank_eq]
theorem keep_get {S : List Int} {o : List Bool} {i : Nat} (hi : i < S.length) (ho : o.getD i false = false) : (keepL S o).getD (rankL o i) 0 = S.getD i 0 := by
  rw [keep_eq, List.getD, List.getElem?_map, idx_get ho hi]
  rfl
theorem map_erase {α β : Type} (f : α → β) (l : List α) : ∀ k, (l.eraseIdx k).map f = (l.map f).eraseIdx k := by
  induction l with
  | nil => intro k; rfl
  | cons x l ih =>
    intro k
    cases k with
    | zero => rfl
    | succ k => rw [List.eraseIdx_cons_succ, List.map_cons, List.map_cons, List.eraseIdx_cons_succ, ih]
theorem keep_set {S : List Int} {o : List Bool} {j : Nat} (hl : o.length = S.length) (hj : j < S.length) (ho : o.getD j false = false) : keepL S (o.set j true) = (keepL S o).eraseIdx (rankL o j) := by
  rw [keep_eq, keep_eq, idx_erase (by omega) ho _ hj, map_erase]
theorem icmF_eq : ∀ (ps : List Int) (S : List Int) (o : List Bool) (i : Nat), o.length = S.length → i < S.length → o.getD i false = false → icmF ps S o i = icm ps (keepL S o) (rankL o i) := by
  intro ps
  induction ps with
  | nil => intro S o i _ _ _; rfl
  | cons p ps ih =>
    intro S o i hl hi ho
    unfold icmF icm
    rw [keep_get hi ho]
    by_cases hps : ps = []
    · rw [if_pos hps, if_pos hps]
    · rw [if_neg hps, if_neg hps]
      have e1 : (keepL S o).length = (idxL o S.length).length := by rw [keep_eq, List.length_map]
      rw [e1, ← idx_map, List.foldl_map]
      generalize mulO (ratQ (S.getD i 0) (sumL (keepL S o))) (some (p, 1)) = e0
      have e2 : (List.range S.length).foldl (fun acc j => if o.getD j false = true ∨ j = i then acc else addO acc (mulO (ratQ (S.getD j 0) (sumL (keepL S o))) (icmF ps S (o.set j true) i))) e0
          = (List.range S.length).foldl (fun acc j => if o.getD j false = true then acc else if j = i then acc else addO acc (mulO (ratQ (S.getD j 0) (sumL (keepL S o))) (icmF ps S (o.set j true) i))) e0 := by
        apply foldl_congr_mem
        intro j _ b
        by_cases h1 : o.getD j false = true
        · rw [if_pos (.inl h1), if_pos h1]
        · rw [if_neg h1]
          by_cases h2 : j = i
          · rw [if_pos (.inr h2), if_pos h2]
          · rw [if_neg (by rintro (h | h); exact h1 h; exact h2 h), if_neg h2]
      rw [e2, foldl_skip (fun j => o.getD j false)]
      apply foldl_congr_mem
      intro j hj b
      have hj' : j < S.length ∧ o.getD j false = false := by simpa [List.mem_filter] using hj
      by_cases hji : j = i
      · subst hji; rw [if_pos rfl, if_pos rfl]
      · have hne : rankL o j ≠ rankL o i := by
          rcases Nat.lt_or_gt_of_ne hji with h | h
          · have := rank_lt hj'.2 h; omega
          · have := rank_lt ho h; omega
        rw [if_neg hji, if_neg hne, keep_get hj'.1 hj'.2, ih S (o.set j true) i (by simpa using hl) hi (by rw [getD_set_ne' hji]; exact ho), keep_set hl hj'.1 hj'.2, rank_set (by omega) hj'.2 ho hji]
end Go.Proofs.Ythpgkngkmmameaa
