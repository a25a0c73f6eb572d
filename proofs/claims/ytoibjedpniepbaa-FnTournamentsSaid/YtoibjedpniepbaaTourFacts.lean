/-
  What FnTournaments asks of the equities. Conditions: none.
-/
import Derived.Test.YtoibjedpniepbaaFieldEq
import Derived.Test.YtoibjedpniepbaaCompare
import Derived.Test.YtoibjedpniepbaaWorst
import Derived.Test.YtoibjedpniepbaaIcmChip
import Derived.Test.YtoibjedpniepbaaRicmD
namespace Go.Proofs.Ytoibjedpniepbaa
open Go.RowKit
set_option linter.unusedVariables false
theorem RQ.alloc {w : World} {A : Option Addr} {qs : List (Int × Int)} (h : RQ w A qs) (o : Obj) : RQ (w.alloc o) A qs := h.below (below_al w o)
theorem tour_fact {S P : List Int} (hE : feE S P = 0) : (feL S P).length = S.length ∧ S.length ≤ 5 ∧ (∀ x ∈ S, -4000000000 ≤ x ∧ x ≤ 4000000000) ∧ (∀ x ∈ P, -4000000000 ≤ x ∧ x ≤ 4000000000) ∧ (-1000000000 ≤ sumL P ∧ sumL P ≤ 1000000000) ∧
    (∀ (j : Nat) (x y : Int), (feL S P)[j]? = some (x, y) → isR x y = true ∧ icm P S j = some (x, y)) ∧
    (∀ (i k : Nat) (s t x y x' y' : Int), (feL S P)[i]? = some (x, y) → (feL S P)[k]? = some (x', y') → S[i]? = some s → S[k]? = some t → t ≤ s → ¬ cmpI (x * y') (x' * y) < 0) ∧
    ∀ q, totQ (fun i => icm P S i) S.length = some q → q = (sumL P, 1) := by
  have hB : prizesB S P = true := by
    by_cases h : prizesB S P = true
    · exact h
    · exfalso; unfold feE at hE; rw [if_neg h] at hE; exact absurd hE (by decide)
  obtain ⟨es, hk, hl⟩ := feE_zero hB hE
  have hlen := feK_len hk
  have hF := (prizesB_iff.1 hB).1
  obtain ⟨f1, f2, hfb⟩ := fieldB_iff.1 hF
  have hok := prizes_ok (i := 0) hB (by omega)
  obtain ⟨p0, p1⟩ := hok.psum
  have p5 := (prizesB_iff.1 hB).2.2.1
  rw [hl]
  have hget : ∀ (j : Nat) (x y : Int), es[j]? = some (x, y) → isR x y = true ∧ icm P S j = some (x, y) := by
    intro j x y hj
    have hj' : j < S.length := by have := (List.getElem?_eq_some_iff.1 hj).1; omega
    obtain ⟨q, h1, h2⟩ := feK_get hk hj'
    rw [hj] at h2
    injection h2 with h2
    subst h2
    exact ⟨(icm_nonneg hB hj' h1).2, h1⟩
  refine ⟨hlen, by omega, fun x hx => by have := hfb x hx; omega, hok.bigP.out, ⟨by omega, by omega⟩, hget, ?_, fun q hq => icm_total (field_posL hB) (by omega) (by omega) (by omega) hq⟩
  intro i k s t x y x' y' hi hk' hs ht hst
  have hi' : i < S.length := (List.getElem?_eq_some_iff.1 hs).1
  have hk'' : k < S.length := (List.getElem?_eq_some_iff.1 ht).1
  have ho := icm_order (prizes_prizeL hB) (field_posL hB) hi' hk'' (by simp [List.getD, hs, ht]; exact hst) (hget i x y hi).2 (hget k x' y' hk').2
  have ho' : x' * y ≤ x * y' := ho
  unfold cmpI
  rw [if_neg (by omega)]
  split <;> omega
end Go.Proofs.Ytoibjedpniepbaa
