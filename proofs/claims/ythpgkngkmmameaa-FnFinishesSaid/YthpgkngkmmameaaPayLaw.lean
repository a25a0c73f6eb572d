/-
  What FnPayouts asks of the numbers: payouts and flat shares. No program stands here but the contracts' own value functions.
-/
import Derived.Test.YthpgkngkmmameaaPayFacts
import Derived.Test.YthpgkngkmmameaaPay
import Derived.Test.YthpgkngkmmameaaFlat
import Derived.Test.YthpgkngkmmameaaDivLaw
namespace Go.Proofs.Ythpgkngkmmameaa
open Go.RowKit
set_option linter.unusedVariables false
theorem flat_whole' {p : Nat} (h1 : 1 ≤ p) (h2 : p ≤ 1000) : sumL (flatL 1000 p) = 1000 ∧ ∀ x ∈ flatL 1000 p, 0 ≤ x ∧ x ≤ 1000 := by
  have hok := ones_ok (u := 1000) (n := p) (by omega) (by omega) h1 h2
  rw [← flat_law (by omega) (by omega)]
  exact ⟨divV_sum hok, fun x hx => divV_small hok (by simp; omega) x hx⟩
theorem fs_law {p : Int} : fsE p = 0 → sumL (fsV p) = 1000 ∧ Hid (∀ x ∈ fsV p, -4000000000 ≤ x ∧ x ≤ 4000000000) := by
  intro h
  unfold fsE at h
  split at h
  · next hi =>
    have hb := inB_iff.1 hi
    obtain ⟨a, b⟩ := flat_whole' (p := p.toNat) (by omega) (by omega)
    unfold fsV
    rw [if_pos hi]
    exact ⟨a, Lib.hid fun x hx => by have := b x hx; omega⟩
  · omega
theorem pay_all {N B F G : Int} {S : List Int} (h : evB N B F G S = true) :
    (pvV N B F G S).length ≤ 12 ∧ sumL (pvV N B F G S) = ppA N B F G S ∧ Hid (∀ x ∈ pvV N B F G S, -4000000000 ≤ x ∧ x ≤ 4000000000) ∧
    (∀ (i : Nat) (x y : Int), 0 < i → (pvV N B F G S)[i]? = some x → (pvV N B F G S)[i - 1]? = some y → x ≤ y) ∧ 0 ≤ ppB N B F G S ∧
    htA N B F G S + ppA N B F G S = N * (B + F) ∧ (0 ≤ N * (B + F) ∧ N * (B + F) ≤ 120000) ∧ 0 ≤ ppA N B F G S ∧ ppA N B F G S ≤ 1000000 ∧ -1000000 ≤ htA N B F G S ∧ htA N B F G S ≤ 120000 ∧ 0 ≤ B + F ∧ B + F ≤ 2000 := by
  have hok := ev_ok h
  obtain ⟨q0, q1, q2, q3, q4, q5⟩ := pool_bd h
  obtain ⟨⟨n0, n1⟩, ⟨b0, b1⟩, ⟨f0, f1⟩, -, -, -, hd, hs⟩ := evB_iff.1 h
  obtain ⟨l1, l2, l3⟩ := pay_law hok.q0 hok.q1 hok.n1 hok.s hd hs
  obtain ⟨e0, e1⟩ := ev_fee h
  rw [show pvV N B F G S = payL (poolI N B G) S by simp [pvV, h], show ppA N B F G S = poolI N B G by simp [ppA, h], show ppB N B F G S = poolI N B G - N * B by simp [ppB, h], show htA N B F G S = N * F - (poolI N B G - N * B) by simp [htA, h]]
  have hm : N * (B + F) = N * B + N * F := Int.mul_add N B F
  refine ⟨by rw [payL_len]; exact hok.n2, l1, Lib.hid fun x hx => by have := l2 x hx; omega, fun i x y hi hx hy => ?_, by omega, by omega, by omega, by omega, by omega, by omega, by omega, by omega, by omega⟩
  have hil := (List.getElem?_eq_some_iff.1 hx).1
  rw [payL_len] at hil
  have := l3 i hi hil
  rw [show (payL (poolI N B G) S).getD i 0 = x by simp [List.getD, hx], show (payL (poolI N B G) S).getD (i - 1) 0 = y by simp [List.getD, hy]] at this
  exact this
end Go.Proofs.Ythpgkngkmmameaa
