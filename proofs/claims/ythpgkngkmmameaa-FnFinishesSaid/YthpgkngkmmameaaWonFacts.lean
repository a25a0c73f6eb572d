/-
  Plain facts on prizes won: places that are tied share the payouts of their places. No program stands here but value functions.
-/
import Derived.Test.YthpgkngkmmameaaPayLaw
import Derived.Test.YthpgkngkmmameaaFin
namespace Go.Proofs.Ythpgkngkmmameaa
open Go.RowKit
set_option linter.unusedVariables false
def samN (l : List Int) (x : Int) : Nat := (l.filter fun y => decide (y = x)).length
def segL (p : List Int) (x s : Nat) : Int := sumL ((p.drop x).take s)
def befN (fs : List Int) (i : Nat) : Nat := samN (fs.take i) (fs.getD i 0)
def pwI (p fs : List Int) (i : Nat) : Int :=
  segL p (fs.getD i 0).toNat (samN fs (fs.getD i 0)) / (samN fs (fs.getD i 0) : Int) + if (befN fs i : Int) < segL p (fs.getD i 0).toNat (samN fs (fs.getD i 0)) % (samN fs (fs.getD i 0) : Int) then 1 else 0
def pwL (p fs : List Int) : List Int := (List.range fs.length).map (pwI p fs)
theorem samN_step {l : List Int} {k : Nat} {y : Int} (x : Int) (hy : l[k]? = some y) : samN (l.take (k + 1)) x = samN (l.take k) x + if y = x then 1 else 0 := by
  unfold samN
  rw [List.take_add_one, hy, List.filter_append, List.length_append]
  by_cases h : y = x <;> simp [h]
theorem samN_le (l : List Int) (x : Int) (k : Nat) : samN (l.take k) x ≤ k := by
  unfold samN
  have := List.length_filter_le (fun y => decide (y = x)) (l.take k)
  rw [List.length_take] at this
  omega
theorem samN_app (a b : List Int) (x : Int) : samN (a ++ b) x = samN a x + samN b x := by unfold samN; rw [List.filter_append, List.length_append]
theorem samN_mono (l : List Int) (x : Int) {j k : Nat} (h : j ≤ k) : samN (l.take j) x ≤ samN (l.take k) x := by
  rw [show l.take j = (l.take k).take j by rw [List.take_take, Nat.min_eq_left h]]
  have := samN_app ((l.take k).take j) ((l.take k).drop j) x
  rw [List.take_append_drop] at this
  omega
theorem samN_all (l : List Int) (x : Int) (k : Nat) : samN (l.take k) x ≤ samN l x := by
  have := samN_app (l.take k) (l.drop k) x
  rw [List.take_append_drop] at this
  omega
theorem cntL_cons (y : Int) (l : List Int) (x : Int) : cntL (y :: l) x = cntL l x + if y < x then 1 else 0 := by
  unfold cntL
  by_cases h : y < x <;> simp [h]
theorem samN_cons (y : Int) (l : List Int) (x : Int) : samN (y :: l) x = samN l x + if y = x then 1 else 0 := by
  unfold samN
  by_cases h : y = x <;> simp [h]
theorem cnt_split (x : Int) : ∀ l : List Int, cntL l (x + 1) = cntL l x + samN l x
  | [] => rfl
  | y :: l => by
    rw [cntL_cons, cntL_cons, samN_cons, cnt_split x l]
    by_cases h : y < x
    · rw [if_pos (by omega), if_pos h, if_neg (by omega)]; omega
    · by_cases h2 : y = x
      · rw [if_pos (by omega), if_neg h, if_pos h2]; omega
      · rw [if_neg (by omega), if_neg h, if_neg h2]; omega
theorem cnt_mono {x y : Int} (h : x ≤ y) : ∀ l : List Int, cntL l x ≤ cntL l y
  | [] => by simp [cntL]
  | z :: l => by
    rw [cntL_cons, cntL_cons]
    have := cnt_mono h l
    by_cases h1 : z < x
    · rw [if_pos h1, if_pos (by omega)]; omega
    · rw [if_neg h1]; split <;> omega
theorem samN_pos {l : List Int} {x : Int} (h : 0 < samN l x) : x ∈ l := by
  unfold samN at h
  obtain ⟨y, hy⟩ := List.exists_mem_of_length_pos h
  rw [List.mem_filter] at hy
  have : y = x := by simpa using hy.2
  rw [← this]; exact hy.1
theorem fin_at {fs : List Int} (h : finB fs = true) {x : Int} (hx : x ∈ fs) : cntL fs x = x := by
  have := List.all_eq_true.1 h x hx
  simpa using this
theorem fin_bd {fs : List Int} (h : finB fs = true) {x : Int} (hx : x ∈ fs) : 0 ≤ x ∧ x + samN fs x ≤ fs.length := by
  have h1 := fin_at h hx
  have h2 := cntL_bd fs x
  have h3 := cntL_bd fs (x + 1)
  have h4 := cnt_split x fs
  omega
theorem mem_sam {fs : List Int} {i : Nat} {x : Int} (hx : fs[i]? = some x) : 0 < samN fs x := by
  have h1 := samN_step x hx
  rw [if_pos rfl] at h1
  have := samN_all fs x (i + 1)
  omega
theorem getD_get {fs : List Int} {i : Nat} (h : i < fs.length) : fs[i]? = some (fs.getD i 0) := get_getD h
/-- The entries among the first k that share place x. -/
def ixL (fs : List Int) (x : Int) (k : Nat) : List Nat := (List.range k).filter fun i => decide (fs.getD i 0 = x)
theorem ixL_step {fs : List Int} {x y : Int} {k : Nat} (hy : fs[k]? = some y) : ixL fs x (k + 1) = ixL fs x k ++ if y = x then [k] else [] := by
  unfold ixL
  rw [List.range_succ, List.filter_append]
  congr 1
  have : fs.getD k 0 = y := by simp [List.getD, hy]
  by_cases h : y = x
  · rw [if_pos h]; simp only [List.filter_cons, List.filter_nil, this, h, decide_true, if_true]
  · rw [if_neg h]; simp only [List.filter_cons, List.filter_nil, this, h, decide_false]; rfl
theorem ixL_len {fs : List Int} {x : Int} : ∀ k, k ≤ fs.length → (ixL fs x k).length = samN (fs.take k) x
  | 0, _ => by simp [ixL, samN]
  | k + 1, h => by
    have hy := getD_get (fs := fs) (i := k) (by omega)
    rw [ixL_step hy, samN_step x hy, List.length_append, ixL_len k (by omega)]
    split <;> simp
theorem ixL_get {fs : List Int} {x : Int} {j i : Nat} : ∀ k, k ≤ fs.length → (ixL fs x k)[j]? = some i → i < k ∧ fs.getD i 0 = x ∧ samN (fs.take i) x = j
  | 0, _, h => by simp [ixL] at h
  | k + 1, hk, h => by
    have hy := getD_get (fs := fs) (i := k) (by omega)
    rw [ixL_step hy] at h
    by_cases hj : j < (ixL fs x k).length
    · rw [List.getElem?_append_left hj] at h
      obtain ⟨a, b, c⟩ := ixL_get k (by omega) h
      exact ⟨by omega, b, c⟩
    · rw [List.getElem?_append_right (by omega)] at h
      by_cases hx : fs.getD k 0 = x
      · rw [if_pos hx] at h
        have h0 : j - (ixL fs x k).length = 0 := by
          by_cases h0 : j - (ixL fs x k).length = 0
          · exact h0
          · obtain ⟨t, ht⟩ : ∃ t, j - (ixL fs x k).length = t + 1 := ⟨_, (Nat.succ_pred h0).symm⟩
            rw [ht] at h; simp at h
        rw [h0] at h
        have hik : k = i := by simpa using h
        subst hik
        refine ⟨by omega, hx, ?_⟩
        rw [← ixL_len k (by omega)]; omega
      · rw [if_neg hx] at h; simp at h
theorem bef_lt {fs : List Int} {i : Nat} (h : i < fs.length) : befN fs i < samN fs (fs.getD i 0) := by
  have hy := getD_get h
  have h1 := samN_step (fs.getD i 0) hy
  rw [if_pos rfl] at h1
  have := samN_all fs (fs.getD i 0) (i + 1)
  unfold befN
  omega
theorem bef_ne {fs : List Int} {i e : Nat} (hi : i < fs.length) (he : e < i) (hx : fs.getD e 0 = fs.getD i 0) : befN fs e < befN fs i := by
  have hy := getD_get (fs := fs) (i := e) (by omega)
  have h1 := samN_step (fs.getD e 0) hy
  rw [if_pos rfl] at h1
  have := samN_mono fs (fs.getD e 0) (show e + 1 ≤ i by omega)
  unfold befN
  rw [← hx]
  omega
/-- What is won when the places below x are served, and j entries of place x. -/
def wonL (p fs : List Int) (x : Int) (j : Nat) : List Int := (List.range fs.length).map fun e => if fs.getD e 0 < x ∨ (fs.getD e 0 = x ∧ befN fs e < j) then pwI p fs e else 0
theorem wonL_len (p fs : List Int) (x : Int) (j : Nat) : (wonL p fs x j).length = fs.length := by simp [wonL]
theorem wonL_get {p fs : List Int} {x : Int} {j e : Nat} (h : e < fs.length) : (wonL p fs x j)[e]? = some (if fs.getD e 0 < x ∨ (fs.getD e 0 = x ∧ befN fs e < j) then pwI p fs e else 0) := by
  simp [wonL, h]
theorem wonL_step {p fs : List Int} {x : Int} {j i : Nat} (h : (ixL fs x fs.length)[j]? = some i) : (wonL p fs x j).set i (pwI p fs i) = wonL p fs x (j + 1) := by
  obtain ⟨h1, h2, h3⟩ := ixL_get _ (Nat.le_refl _) h
  have hb : befN fs i = j := by unfold befN; rw [h2]; exact h3
  apply List.ext_getElem?
  intro e
  by_cases he : e < fs.length
  · by_cases hei : i = e
    · subst hei
      rw [List.getElem?_set_self (by rw [wonL_len]; exact he), wonL_get he, if_pos (.inr ⟨h2, by omega⟩)]
    · rw [List.getElem?_set_ne hei, wonL_get he, wonL_get he]
      have : (fs.getD e 0 < x ∨ (fs.getD e 0 = x ∧ befN fs e < j)) ↔ (fs.getD e 0 < x ∨ (fs.getD e 0 = x ∧ befN fs e < j + 1)) := by
        constructor
        · rintro (a | ⟨a, b⟩)
          · exact .inl a
          · exact .inr ⟨a, by omega⟩
        · rintro (a | ⟨a, b⟩)
          · exact .inl a
          · refine .inr ⟨a, ?_⟩
            rcases Nat.lt_or_gt_of_ne hei with c | c
            · have := bef_ne he c (by rw [h2, a]); omega
            · have := bef_ne h1 c (by rw [h2, a]); omega
      simp only [this]
  · rw [List.getElem?_eq_none (by rw [List.length_set, wonL_len]; omega), List.getElem?_eq_none (by rw [wonL_len]; omega)]
theorem wonL_next {p fs : List Int} {x : Int} : wonL p fs x (samN fs x) = wonL p fs (x + 1) 0 := by
  unfold wonL
  apply List.map_congr_left
  intro e he
  have he' : e < fs.length := List.mem_range.1 he
  have hb := bef_lt he'
  have : (fs.getD e 0 < x ∨ (fs.getD e 0 = x ∧ befN fs e < samN fs x)) ↔ (fs.getD e 0 < x + 1 ∨ (fs.getD e 0 = x + 1 ∧ befN fs e < 0)) := by
    constructor
    · rintro (a | ⟨a, b⟩)
      · exact .inl (by omega)
      · exact .inl (by omega)
    · rintro (a | ⟨a, b⟩)
      · by_cases h : fs.getD e 0 < x
        · exact .inl h
        · have hx : fs.getD e 0 = x := by omega
          exact .inr ⟨hx, by rw [← hx]; exact hb⟩
      · omega
  simp only [this]
theorem wonL_zero {p fs : List Int} (h : ∀ x ∈ fs, 0 ≤ x) : wonL p fs 0 0 = List.replicate fs.length 0 := by
  apply List.ext_getElem?
  intro e
  by_cases he : e < fs.length
  · have := h _ (getD_mem he)
    rw [wonL_get he, if_neg (by omega)]
    simp [he]
  · rw [List.getElem?_eq_none (by rw [wonL_len]; omega), List.getElem?_eq_none (by rw [List.length_replicate]; omega)]
theorem wonL_end {p fs : List Int} {n : Int} (h : ∀ x ∈ fs, x < n) : wonL p fs n 0 = pwL p fs := by
  unfold wonL pwL
  apply List.map_congr_left
  intro e he
  have := h _ (getD_mem (List.mem_range.1 he))
  rw [if_pos (.inl this)]
theorem won_old {p fs : List Int} {x : Int} {j i : Nat} (h : (ixL fs x fs.length)[j]? = some i) : i < fs.length ∧ (wonL p fs x j)[i]? = some 0 := by
  obtain ⟨h1, h2, h3⟩ := ixL_get _ (Nat.le_refl _) h
  refine ⟨h1, ?_⟩
  have hb : befN fs i = j := by unfold befN; rw [h2]; exact h3
  rw [wonL_get h1, if_neg]
  rintro (a | ⟨a, b⟩) <;> omega
theorem flat_get {u : Int} {n j : Nat} (h : j < n) : (flatL u n)[j]? = some (u / n + if (j : Int) < u % n then 1 else 0) := by simp [flatL, h]
theorem won_flat {p fs : List Int} {x : Int} {j i : Nat} (h : (ixL fs x fs.length)[j]? = some i) : (flatL (segL p x.toNat (samN fs x)) (samN fs x))[j]? = some (pwI p fs i) := by
  obtain ⟨h1, h2, h3⟩ := ixL_get _ (Nat.le_refl _) h
  have hb : befN fs i = j := by unfold befN; rw [h2]; exact h3
  have hl := bef_lt h1
  rw [h2, hb] at hl
  rw [flat_get hl]
  unfold pwI
  rw [h2, hb]
theorem segL_step {p : List Int} {x s : Nat} : segL p x (s + 1) = segL p x s + p.getD (x + s) 0 := by
  unfold segL
  by_cases h : x + s < p.length
  · have hg : (p.drop x)[s]? = some (p.getD (x + s) 0) := by rw [List.getElem?_drop]; exact get_getD h
    rw [List.take_add_one, hg, sumL_app]
    simp [sumL]
  · rw [List.take_of_length_le (by simp; omega), List.take_of_length_le (by simp; omega), show p.getD (x + s) 0 = 0 by simp [List.getD, List.getElem?_eq_none (show p.length ≤ x + s by omega)]]
    omega
theorem segL_zero (p : List Int) (x : Nat) : segL p x 0 = 0 := by simp [segL, sumL]
theorem segL_over {p : List Int} {x s t : Nat} (h : p.length ≤ x + t) (hts : t ≤ s) : segL p x s = segL p x t := by
  unfold segL
  rw [List.take_of_length_le (by simp; omega), List.take_of_length_le (by simp; omega)]
theorem segL_bd {p : List Int} {B : Int} (h : ∀ x ∈ p, 0 ≤ x ∧ x ≤ B) (hB : 0 ≤ B) (x : Nat) : ∀ s : Nat, 0 ≤ segL p x s ∧ segL p x s ≤ B * s
  | 0 => by rw [segL_zero]; simp
  | s + 1 => by
    have ih := segL_bd h hB x s
    rw [segL_step]
    have : 0 ≤ p.getD (x + s) 0 ∧ p.getD (x + s) 0 ≤ B := by
      by_cases hl : x + s < p.length
      · exact h _ (getD_mem hl)
      · rw [show p.getD (x + s) 0 = 0 by simp [List.getD, List.getElem?_eq_none (show p.length ≤ x + s by omega)]]; omega
    push_cast
    rw [Int.mul_add]
    omega
theorem segL_le_all {p : List Int} (h : ∀ x ∈ p, 0 ≤ x) (x s : Nat) : 0 ≤ segL p x s ∧ segL p x s ≤ sumL p := by
  have e : sumL p = sumL (p.take x) + (sumL ((p.drop x).take s) + sumL ((p.drop x).drop s)) := by
    rw [← sumL_app, List.take_append_drop, ← sumL_app, List.take_append_drop]
  have a := sumL_nonneg (l := p.take x) (fun z hz => h z (List.mem_of_mem_take hz))
  have b := sumL_nonneg (l := (p.drop x).drop s) (fun z hz => h z (List.mem_of_mem_drop (List.mem_of_mem_drop hz)))
  have c := sumL_nonneg (l := (p.drop x).take s) (fun z hz => h z (List.mem_of_mem_drop (List.mem_of_mem_take hz)))
  unfold segL
  omega
end Go.Proofs.Ythpgkngkmmameaa
