/-
  What FnDivided and FnChops ask of the deals. Conditions: none.
-/
import Derived.Test.YthpgkngkmmameaaDealsC
import Derived.Test.YthpgkngkmmameaaDivFacts
namespace Go.Proofs.Ythpgkngkmmameaa
open Go.RowKit
set_option linter.unusedVariables false
theorem divV_small {u : Int} {ws : List Int} (h : DivOk u ws) (hl : 0 < ws.length) : ∀ x ∈ divV u ws, 0 ≤ x ∧ x ≤ u := by
  intro x hx
  have h0 : ∀ x ∈ divV u ws, 0 ≤ x := fun x hx => (divV_bd h hl x hx).1
  have := mem_le_sum h0 x hx
  rw [sumD_sumL, divV_sum h] at this
  exact ⟨h0 x hx, this⟩
theorem dm_fact {u : Int} {ws : List Int} (h : dmE u ws = 0) : dmB ws = true ∧ inB u 0 1000000 = true ∧ dmV u ws = divV u ws := by
  by_cases h1 : dmB ws = true
  · by_cases h2 : inB u 0 1000000 = true
    · exact ⟨h1, h2, by unfold dmV; rw [if_pos h1, if_pos h2]⟩
    · exfalso; unfold dmE at h; rw [if_pos h1, if_neg h2] at h; exact absurd h (by decide)
  · exfalso; unfold dmE at h; rw [if_neg h1] at h; exact absurd h (by decide)
theorem small_of {l : List Int} {B : Int} (hB : B ≤ 1000000) (h : ∀ x ∈ l, 0 ≤ x ∧ x ≤ B) : Hid (∀ x ∈ l, -4000000000 ≤ x ∧ x ≤ 4000000000) := Lib.hid (fun x hx => by have := h x hx; omega)
/-- What the law reads of DivideMoney. -/
theorem dm_law {u : Int} {ws : List Int} (h : dmE u ws = 0) : (dmV u ws).length = ws.length ∧ ws.length ≤ 5 ∧ (∀ x ∈ ws, 0 ≤ x ∧ x ≤ 1000000) ∧ 0 ≤ u ∧ u ≤ 1000000 ∧ 0 < sumL ws ∧ sumL ws ≤ 5000000 ∧ sumL (dmV u ws) = u ∧ Hid (∀ x ∈ dmV u ws, -4000000000 ≤ x ∧ x ≤ 4000000000) ∧
    ∀ (i : Nat) (x y : Int), (dmV u ws)[i]? = some x → ws[i]? = some y → u * y - sumL ws < x * sumL ws ∧ x * sumL ws < u * y + sumL ws ∧ 0 ≤ x * sumL ws ∧ 0 ≤ u * y ∧ u * y ≤ 1000000000000 := by
  obtain ⟨h1, h2, h3⟩ := dm_fact h
  have hok := dmB_ok h1 h2
  rw [h3]
  unfold dmB at h1
  rw [Bool.and_eq_true, Bool.and_eq_true, inB_iff, allIn_iff, decide_eq_true_eq] at h1
  obtain ⟨⟨n1, a1⟩, t0⟩ := h1
  obtain ⟨u0, u1⟩ := inB_iff.1 h2
  have hs := sumL_bound (zs := ws) (B := 1000000) (by omega) (fun x hx => by have := a1 x hx; omega) ws.length
  rw [List.take_length] at hs
  have hlaw := (div_law hok.u0 (fun x hx => (a1 x hx).1) (by rw [sumD_sumL]; exact t0)).2.2
  refine ⟨divV_len u ws, by omega, a1, u0, u1, t0, by omega, divV_sum hok, small_of u1 (divV_small hok (by omega)), fun i x y hx hy => ?_⟩
  have hi : i < ws.length := (List.getElem?_eq_some_iff.1 hy).1
  have := hlaw i hi
  rw [show (divV u ws).getD i 0 = x by simp [List.getD, hx], show ws.getD i 0 = y by simp [List.getD, hy], sumD_sumL] at this
  have hx0 := (divV_small hok (by omega) x (List.mem_of_getElem? hx)).1
  have hy0 := a1 y (List.mem_of_getElem? hy)
  have m1 := Int.mul_nonneg hx0 (show 0 ≤ sumL ws by omega)
  have m2 := Int.mul_nonneg u0 hy0.1
  have m3 : u * y ≤ 1000000 * 1000000 := Int.mul_le_mul u1 hy0.2 hy0.1 (by omega)
  exact ⟨this.1, this.2, m1, m2, by omega⟩
/-- What the law reads of SplitBounty. -/
theorem sb_law {u k : Int} (h : sbE u k = 0) : sumL (sbV u k) = u ∧ Hid (∀ x ∈ sbV u k, -4000000000 ≤ x ∧ x ≤ 4000000000) := by
  unfold sbE at h
  by_cases hc : (inB u 0 1000000 && inB k 1 5) = true
  · unfold sbV
    rw [if_pos hc]
    rw [Bool.and_eq_true] at hc
    obtain ⟨u0, u1⟩ := inB_iff.1 hc.1
    obtain ⟨k0, k1⟩ := inB_iff.1 hc.2
    have hok := ones_ok (n := k.toNat) u0 (by omega) (by omega) (by omega)
    exact ⟨divV_sum hok, small_of u1 (divV_small hok (by simp; omega))⟩
  · rw [if_neg hc] at h; exact absurd h (by decide)
/-- What the law reads of SavePrize. -/
theorem sp_law {P : List Int} {s : Int} (h : spE P s = 0) : sumL (spV P s) = sumL P ∧ Hid (∀ x ∈ spV P s, -4000000000 ≤ x ∧ x ≤ 4000000000) ∧ Hid (∀ x ∈ P, -4000000000 ≤ x ∧ x ≤ 4000000000) := by
  unfold spE at h
  by_cases h1 : spB P = true
  · rw [if_pos h1] at h
    by_cases h2 : inB s 0 (sumL P) = true
    · obtain ⟨s0, s1⟩ := inB_iff.1 h2
      obtain ⟨p0, p1, p2, p3⟩ := spB_sum h1
      have hok := ones_ok (u := sumL P - s) (n := P.length) (by omega) (by omega) (by omega) (by omega)
      have hb := divV_small hok (by simp; omega)
      have hl : (divV (sumL P - s) (List.replicate P.length 1)).length = P.length := by rw [divV_len]; simp
      have e : spV P s = (divV (sumL P - s) (List.replicate P.length 1)).set 0 ((divV (sumL P - s) (List.replicate P.length 1)).getD 0 0 + s) := by simp [spV, h1, h2]
      have hsm : ∀ x ∈ spV P s, 0 ≤ x ∧ x ≤ sumL P := by
        intro x hx
        rw [e] at hx
        rcases List.mem_or_eq_of_mem_set hx with hx | hx
        · have := hb x hx; omega
        · obtain ⟨y, hy⟩ := get_some (zs := divV (sumL P - s) (List.replicate P.length 1)) (k := 0) (by omega)
          rw [show (divV (sumL P - s) (List.replicate P.length 1)).getD 0 0 = y by simp [List.getD, hy]] at hx
          have := hb y (List.mem_of_getElem? hy); omega
      refine ⟨?_, small_of (B := 500000) (by omega) (fun x hx => by have := hsm x hx; omega), spB_small (by unfold spB at h1; rw [Bool.and_eq_true] at h1; exact h1.2)⟩
      have hs := divV_sum hok
      have hq := sumD_set (divV (sumL P - s) (List.replicate P.length 1)) 0 ((divV (sumL P - s) (List.replicate P.length 1)).getD 0 0 + s) (by omega)
      rw [sumD_sumL, sumD_sumL, hs] at hq
      rw [e, hq]; omega
    · rw [if_neg h2] at h; exact absurd h (by decide)
  · rw [if_neg h1] at h; exact absurd h (by decide)
end Go.Proofs.Ythpgkngkmmameaa
