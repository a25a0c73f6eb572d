/-
  What FnFinishes asks of the prizes won: they add up to the payouts, and a better place never wins less. No program stands here but value functions.
-/
import Derived.Test.YthpgkngkmmameaaWonFacts
namespace Go.Proofs.Ythpgkngkmmameaa
open Go.RowKit
set_option linter.unusedVariables false
theorem flatS_sum {u : Int} {n : Nat} (h0 : 0 ≤ u) (h1 : u ≤ 10000000) (h2 : 1 ≤ n) (h3 : n ≤ 1000) : sumL (flatL u n) = u := by
  have hok := ones_ok (u := u) (n := n) h0 h1 h2 h3
  rw [← flat_law h0 (by omega)]
  exact divV_sum hok
theorem won_sum_step {p fs : List Int} {x : Int} {j i : Nat} (h : (ixL fs x fs.length)[j]? = some i) : sumL (wonL p fs x (j + 1)) = sumL (wonL p fs x j) + pwI p fs i := by
  obtain ⟨h1, h2⟩ := won_old (p := p) h
  rw [← wonL_step h]
  have := sumD_set (wonL p fs x j) i (pwI p fs i) (by rw [wonL_len]; exact h1)
  rw [show (wonL p fs x j).getD i 0 = 0 by simp [List.getD, h2]] at this
  rw [sumD_sumL, sumD_sumL] at this
  omega
theorem won_sum_group {p fs : List Int} {x : Int} : ∀ j, j ≤ samN fs x → sumL (wonL p fs x j) = sumL (wonL p fs x 0) + sumL ((flatL (segL p x.toNat (samN fs x)) (samN fs x)).take j)
  | 0, _ => by simp [sumL]
  | j + 1, hj => by
    have ih := won_sum_group (p := p) (fs := fs) (x := x) j (by omega)
    have hl := ixL_len (fs := fs) (x := x) fs.length (Nat.le_refl _)
    rw [List.take_length] at hl
    have hi : (ixL fs x fs.length)[j]? = some ((ixL fs x fs.length)[j]'(by omega)) := List.getElem?_eq_getElem (by omega)
    rw [won_sum_step hi, ih, sumL_step (won_flat hi)]
    omega
theorem cnt_pos {fs : List Int} (h : ∀ x ∈ fs, 0 ≤ x) : cntL fs 0 = 0 := by
  unfold cntL
  rw [List.filter_eq_nil_iff.2 (fun x hx => by have := h x hx; simp; omega)]
  rfl
theorem cnt_all {fs : List Int} {n : Int} (h : ∀ x ∈ fs, x < n) : cntL fs n = fs.length := by
  unfold cntL
  rw [List.filter_eq_self.2 (fun x hx => by have := h x hx; simp; omega)]
theorem won_total {p fs : List Int} (hf : finB fs = true) (hl : fs.length ≤ 60) (hp : ∀ x ∈ p, 0 ≤ x) (hs : sumL p ≤ 10000000) : ∀ n : Nat, sumL (wonL p fs n 0) = sumL (p.take (cntL fs n).toNat)
  | 0 => by
    have h0 := fun x hx => (fin_bd hf (x := x) hx).1
    rw [show ((0 : Nat) : Int) = 0 from rfl, wonL_zero h0, cnt_pos h0]
    have := sumD_rep fs.length 0
    rw [sumD_sumL] at this
    rw [this]
    simp [sumL]
  | n + 1 => by
    have ih := won_total hf hl hp hs n
    have hc := cnt_split n fs
    rw [show ((n + 1 : Nat) : Int) = (n : Int) + 1 by omega, ← wonL_next]
    by_cases h0 : samN fs n = 0
    · rw [h0, ih, hc, h0]; simp
    · have hm := samN_pos (l := fs) (x := n) (by omega)
      have hx := fin_at hf hm
      have hb := fin_bd hf hm
      have hg := segL_le_all hp n (samN fs n)
      rw [won_sum_group (samN fs n) (Nat.le_refl _), ih, List.take_of_length_le (l := flatL (segL p ((n : Nat) : Int).toNat (samN fs n)) (samN fs n)) (by simp [flatL]), hc, hx]
      rw [show ((n : Int)).toNat = n by omega, show ((n : Int) + (samN fs n : Int)).toNat = n + samN fs n by omega]
      rw [flatS_sum hg.1 (by omega) (by omega) (by omega), List.take_add, sumL_app]
      rfl
theorem won_all {p fs : List Int} (hf : finB fs = true) (hl : fs.length ≤ 60) (hp : ∀ x ∈ p, 0 ≤ x) (hs : sumL p ≤ 10000000) (hpl : p.length ≤ fs.length) : sumL (pwL p fs) = sumL p := by
  have hlt : ∀ x ∈ fs, x < (fs.length : Int) := fun x hx => by
    have h1 := fin_bd hf hx
    obtain ⟨i, hi, he⟩ := List.getElem_of_mem hx
    have := mem_sam (fs := fs) (i := i) (x := x) (by rw [List.getElem?_eq_getElem hi, he])
    omega
  have := won_total hf hl hp hs fs.length
  rw [wonL_end hlt, cnt_all hlt] at this
  rw [this]
  rw [List.take_of_length_le (by omega)]
theorem seg_low {p : List Int} (hd : ∀ i j, i ≤ j → p.getD j 0 ≤ p.getD i 0) (x : Nat) : ∀ s t : Nat, s ≤ t + 1 → p.getD (x + t) 0 * s ≤ segL p x s
  | 0, t, _ => by rw [segL_zero]; simp
  | s + 1, t, h => by
    have ih := seg_low hd x s t (by omega)
    have := hd (x + s) (x + t) (by omega)
    rw [segL_step]
    push_cast
    rw [Int.mul_add]
    omega
theorem seg_high {p : List Int} (hd : ∀ i j, i ≤ j → p.getD j 0 ≤ p.getD i 0) (x : Nat) : ∀ s : Nat, segL p x s ≤ p.getD x 0 * s
  | 0 => by rw [segL_zero]; simp
  | s + 1 => by
    have ih := seg_high hd x s
    have := hd x (x + s) (by omega)
    rw [segL_step]
    push_cast
    rw [Int.mul_add]
    omega
theorem pwI_low {p fs : List Int} (hd : ∀ i j, i ≤ j → p.getD j 0 ≤ p.getD i 0) {i : Nat} (hi : i < fs.length) : p.getD ((fs.getD i 0).toNat + (samN fs (fs.getD i 0) - 1)) 0 ≤ pwI p fs i := by
  have hl := bef_lt hi
  obtain ⟨x, hx⟩ : ∃ x, fs.getD i 0 = x := ⟨_, rfl⟩
  unfold pwI
  rw [hx] at hl ⊢
  obtain ⟨s, hs⟩ : ∃ s, samN fs x = s := ⟨_, rfl⟩
  rw [hs] at hl ⊢
  obtain ⟨t, rfl⟩ : ∃ t, s = t + 1 := ⟨s - 1, by omega⟩
  have h1 := seg_low hd x.toNat (t + 1) t (by omega)
  have h2 : p.getD (x.toNat + t) 0 ≤ segL p x.toNat (t + 1) / ((t + 1 : Nat) : Int) := Int.le_ediv_of_mul_le (by omega) h1
  rw [show t + 1 - 1 = t by omega]
  split <;> omega
theorem pwI_high {p fs : List Int} (hd : ∀ i j, i ≤ j → p.getD j 0 ≤ p.getD i 0) {i : Nat} (hi : i < fs.length) : pwI p fs i ≤ p.getD (fs.getD i 0).toNat 0 := by
  have hl := bef_lt hi
  obtain ⟨x, hx⟩ : ∃ x, fs.getD i 0 = x := ⟨_, rfl⟩
  unfold pwI
  rw [hx] at hl ⊢
  obtain ⟨s, hs⟩ : ∃ s, samN fs x = s := ⟨_, rfl⟩
  rw [hs] at hl ⊢
  have hl0 : 0 < s := by omega
  have h1 := seg_high hd x.toNat s
  obtain ⟨V, hV⟩ : ∃ V, p.getD x.toNat 0 = V := ⟨_, rfl⟩
  obtain ⟨q, hq⟩ : ∃ q, segL p x.toNat s = q := ⟨_, rfl⟩
  rw [hV, hq] at h1
  rw [hV, hq]
  have hsp : (0 : Int) < s := by omega
  have hs0 : (s : Int) ≠ 0 := by omega
  have h2 : q / (s : Int) ≤ V := by
    have h := Int.ediv_le_ediv hsp h1
    rw [Int.mul_ediv_cancel V hs0] at h
    exact h
  by_cases hb : (befN fs i : Int) < q % (s : Int)
  · rw [if_pos hb]
    have h3 := Int.mul_ediv_add_emod q s
    by_cases h4 : q / (s : Int) = V
    · rw [h4, Int.mul_comm] at h3; omega
    · omega
  · rw [if_neg hb]; omega
/-- A better place never wins less. -/
theorem won_order {p fs : List Int} (hf : finB fs = true) (hd : ∀ i j, i ≤ j → p.getD j 0 ≤ p.getD i 0) {i k : Nat} (hi : i < fs.length) (hk : k < fs.length) (h : fs.getD i 0 < fs.getD k 0) : pwI p fs k ≤ pwI p fs i := by
  have a := pwI_low hd hi
  have b := pwI_high hd hk
  have mi := getD_mem hi
  have mk := getD_mem hk
  have xi := fin_at hf mi
  have xk := fin_at hf mk
  have bi := fin_bd hf mi
  have c := cnt_split (fs.getD i 0) fs
  have m := cnt_mono (show fs.getD i 0 + 1 ≤ fs.getD k 0 by omega) fs
  have l := bef_lt hi
  have := hd ((fs.getD i 0).toNat + (samN fs (fs.getD i 0) - 1)) (fs.getD k 0).toNat (by omega)
  omega
theorem desc_getD {p : List Int} (h : ∀ i, 0 < i → i < p.length → p.getD i 0 ≤ p.getD (i - 1) 0) (h0 : ∀ x ∈ p, 0 ≤ x) : ∀ i j, i ≤ j → p.getD j 0 ≤ p.getD i 0 := by
  intro i j hij
  have hnn : ∀ i, 0 ≤ p.getD i 0 := fun i => by
    by_cases hl : i < p.length
    · exact h0 _ (getD_mem hl)
    · rw [show p.getD i 0 = 0 by simp [List.getD, List.getElem?_eq_none (show p.length ≤ i by omega)]]; omega
  induction j with
  | zero => obtain rfl : i = 0 := by omega
            exact Int.le_refl _
  | succ j ih =>
    by_cases he : i = j + 1
    · subst he; exact Int.le_refl _
    · by_cases hl : j + 1 < p.length
      · have h1 := h (j + 1) (by omega) hl
        have h2 := ih (by omega)
        rw [Nat.add_sub_cancel] at h1
        omega
      · rw [show p.getD (j + 1) 0 = 0 by simp [List.getD, List.getElem?_eq_none (show p.length ≤ j + 1 by omega)]]
        exact hnn i
end Go.Proofs.Ythpgkngkmmameaa
