/-
  Plain facts of the greatest drop: it lies between its two places and none is greater. Conditions: a list that is not empty.
-/
import Derived.Test.YtcdianhemnpmcaaDrop
namespace Go.Proofs.Ytcdianhemnpmcaa
open Go.RowKit
set_option linter.unusedVariables false
def DInv (b : List Int) (s : Drop) : Prop := 0 ≤ s.d ∧ s.f < b.length ∧ s.l < b.length ∧ b.getD s.f 0 - b.getD s.l 0 = s.d
theorem updD_fact (b : List Int) (i k : Nat) (s : Drop) (hi : i < b.length) (hk : k < b.length) (h : DInv b s) : DInv b (updD b i k s) ∧ s.d ≤ (updD b i k s).d ∧ b.getD i 0 - b.getD k 0 ≤ (updD b i k s).d := by
  obtain ⟨h0, h1, h2, h3⟩ := h
  unfold updD
  split
  · exact ⟨⟨by show 0 ≤ b.getD i 0 - b.getD k 0; omega, hi, hk, rfl⟩, by show s.d ≤ b.getD i 0 - b.getD k 0; omega, Int.le_refl _⟩
  · exact ⟨⟨h0, h1, h2, h3⟩, Int.le_refl _, by omega⟩
theorem dIn_fact (b : List Int) (i : Nat) (hi : i < b.length) : ∀ (n k : Nat) (s : Drop), k + n = b.length → DInv b s → DInv b (dIn b i n k s) ∧ s.d ≤ (dIn b i n k s).d ∧ ∀ j, k ≤ j → j < b.length → b.getD i 0 - b.getD j 0 ≤ (dIn b i n k s).d := by
  intro n
  induction n with
  | zero => intro k s hk h; exact ⟨h, Int.le_refl _, fun j h1 h2 => by omega⟩
  | succ n ih =>
    intro k s hk h
    obtain ⟨u1, u2, u3⟩ := updD_fact b i k s hi (by omega) h
    obtain ⟨v1, v2, v3⟩ := ih (k + 1) _ (by omega) u1
    refine ⟨v1, Int.le_trans u2 v2, fun j h1 h2 => ?_⟩
    by_cases hj : j = k
    · subst hj; exact Int.le_trans u3 v2
    · exact v3 j (by omega) h2
theorem dOut_fact (b : List Int) : ∀ (n i : Nat) (s : Drop), i + n = b.length → DInv b s → DInv b (dOut b n i s) ∧ s.d ≤ (dOut b n i s).d ∧ ∀ j k, i ≤ j → j < k → k < b.length → b.getD j 0 - b.getD k 0 ≤ (dOut b n i s).d := by
  intro n
  induction n with
  | zero => intro i s hi h; exact ⟨h, Int.le_refl _, fun j k h1 h2 h3 => by omega⟩
  | succ n ih =>
    intro i s hi h
    obtain ⟨u1, u2, u3⟩ := dIn_fact b i (by omega) (b.length - (i + 1)) (i + 1) s (by omega) h
    obtain ⟨v1, v2, v3⟩ := ih (i + 1) _ (by omega) u1
    refine ⟨v1, Int.le_trans u2 v2, fun j k h1 h2 h3 => ?_⟩
    by_cases hj : j = i
    · subst hj; exact Int.le_trans (u3 k (by omega) h3) v2
    · exact v3 j k (by omega) h2 h3
theorem drop_fact {b : List Int} (hb : 0 < b.length) : DInv b (dropS b) ∧ ∀ (j k : Nat) (x y : Int), j < k → b[j]? = some x → b[k]? = some y → x - y ≤ (dropS b).d := by
  obtain ⟨h1, -, h3⟩ := dOut_fact b b.length 0 ⟨0, 0, 0⟩ (by omega) ⟨Int.le_refl _, hb, hb, by simp⟩
  refine ⟨h1, fun j k x y hjk hx hy => ?_⟩
  have hk := (List.getElem?_eq_some_iff.1 hy).1
  have := h3 j k (Nat.zero_le _) hjk hk
  simp only [List.getD, hx, hy, Option.getD_some] at this
  exact this
theorem gd_fact {zs : List Int} (hr : resB zs = true) : ∃ (f l : Nat) (d x y : Int), gdD zs = d ∧ gdF zs = f ∧ gdL zs = l ∧ gdE zs = 0 ∧ 0 ≤ d ∧ f < (balL zs).length ∧ l < (balL zs).length ∧ (balL zs)[f]? = some x ∧ (balL zs)[l]? = some y ∧ x - y = d ∧ ∀ (j k : Nat) (x y : Int), j < k → (balL zs)[j]? = some x → (balL zs)[k]? = some y → x - y ≤ d := by
  obtain ⟨⟨h0, h1, h2, h3⟩, h4⟩ := drop_fact (b := balL zs) (by rw [balL_len]; omega)
  obtain ⟨x, hx⟩ := get_some h1
  obtain ⟨y, hy⟩ := get_some h2
  refine ⟨_, _, _, x, y, by unfold gdD; rw [if_pos hr], by unfold gdF; rw [if_pos hr], by unfold gdL; rw [if_pos hr], by unfold gdE; rw [if_pos hr], h0, h1, h2, hx, hy, ?_, h4⟩
  simp only [List.getD, hx, hy, Option.getD_some] at h3
  exact h3
theorem balL_cons {zs : List Int} (hr : resB zs = true) : [0] ++ balV zs = balL zs := by
  unfold balV
  rw [if_pos hr]
  have h : balL zs = 0 :: (balL zs).drop 1 := by
    have h0 : (balL zs)[0]? = some 0 := by
      unfold balL
      rw [List.getElem?_map, List.getElem?_range (by omega)]
      simp [sumL]
    cases hb : balL zs with
    | nil => rw [hb] at h0; simp at h0
    | cons a t => rw [hb] at h0; simp at h0; rw [h0]; rfl
  rw [List.singleton_append]
  exact h.symm
end Go.Proofs.Ytcdianhemnpmcaa
