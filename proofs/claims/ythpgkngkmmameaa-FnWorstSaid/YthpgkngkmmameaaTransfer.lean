/-
  The contracts of TransferChips, isPlayer, l29Player, l29Can, l29Transfer. Conditions: at most 1048576 elements.
-/
import Derived.Test.YthpgkngkmmameaaOwn
import Derived.Test.YthpgkngkmmameaaPrizes
import Derived.Test.YthpgkngkmmameaaArg
namespace Go.Proofs.Ythpgkngkmmameaa
open Go.RowKit
set_option linter.unusedVariables false
theorem impl_isPlayer_c (A : Option Addr) (n c : Nat) (p : Int) (w : World) (hm : n ≤ 1048576) : Calls Try.prog 105 #[.slice A n c, .int .i64 p] w fun e w' => e = .returned (.bool (inB p 0 ((n : Int) - 1))) ∧ w = w' := by
  go_enter Try.func105, Try.ntmps105
  go_wp2_with (go_at_call 94; refine (impl_within_c _ _ _ _).mono ?_; rintro e w' ⟨rfl, rfl⟩)
  go_ret
  exact ⟨rfl, rfl⟩
/-- The code of a transfer in a field. -/
def trC (S : List Int) (f t k : Int) : Int :=
  if inB f 0 ((S.length : Int) - 1) = false ∨ inB t 0 ((S.length : Int) - 1) = false ∨ k < 0 then 2
  else if f = t ∨ S.getD f.toNat 0 ≤ k ∨ 1000 < S.getD t.toNat 0 + k then 5 else 0
def trL (S : List Int) (f t k : Int) : List Int := (S.set f.toNat (S.getD f.toNat 0 - k)).set t.toNat ((S.set f.toNat (S.getD f.toNat 0 - k)).getD t.toNat 0 + k)
def trE (S : List Int) (f t k : Int) : Int := if fieldB S = true then trC S f t k else 1
def trV (S : List Int) (f t k : Int) : List Int := if trE S f t k = 0 then trL S f t k else []
theorem tr_len (S : List Int) (f t k : Int) : (trL S f t k).length = S.length := by simp [trL]
theorem player_nat {p : Int} {n : Nat} (h : inB p 0 ((n : Int) - 1) = true) : ∃ i : Nat, p = i ∧ i < n := ⟨p.toNat, by have := inB_iff.1 h; omega⟩
/-- What a field bears at an index. -/
theorem field_at {S : List Int} (h : fieldB S = true) {i : Nat} (hi : i < S.length) : ∃ x, S[i]? = some x ∧ S.getD i 0 = x ∧ 1 ≤ x ∧ x ≤ 1000 := by
  obtain ⟨h1, h2, h3⟩ := fieldB_iff.1 h
  refine ⟨S[i], List.getElem?_eq_getElem hi, by simp [List.getD, hi], ?_⟩
  exact h3 _ (List.getElem_mem hi)
/-- What a transfer that can be made bears. -/
theorem tr_ok {S : List Int} {f t k : Int} (hF : fieldB S = true) (h : trC S f t k = 0) : ∃ (i j : Nat) (x y : Int), f = i ∧ t = j ∧ i < S.length ∧ j < S.length ∧ i ≠ j ∧ S[i]? = some x ∧ S[j]? = some y ∧ 0 ≤ k ∧ k < x ∧ y + k ≤ 1000 ∧ 1 ≤ x ∧ x ≤ 1000 ∧ 1 ≤ y ∧ y ≤ 1000 ∧ trL S f t k = (S.set i (x - k)).set j (y + k) := by
  unfold trC at h
  split at h
  · omega
  · next h1 =>
    split at h
    · omega
    · next h2 =>
      have hf : inB f 0 ((S.length : Int) - 1) = true := by cases hc : inB f 0 ((S.length : Int) - 1) with | true => rfl | false => exact absurd (.inl hc) h1
      have ht : inB t 0 ((S.length : Int) - 1) = true := by cases hc : inB t 0 ((S.length : Int) - 1) with | true => rfl | false => exact absurd (.inr (.inl hc)) h1
      obtain ⟨i, rfl, hi⟩ := player_nat hf
      obtain ⟨j, rfl, hj⟩ := player_nat ht
      obtain ⟨x, hx, hxD, x0, x1⟩ := field_at hF hi
      obtain ⟨y, hy, hyD, y0, y1⟩ := field_at hF hj
      rw [Int.toNat_natCast, Int.toNat_natCast, hxD, hyD] at h2
      have hij : ¬ i = j := fun e => h2 (.inl (by rw [e]))
      refine ⟨i, j, x, y, rfl, rfl, hi, hj, hij, hx, hy, by omega, by omega, by omega, x0, x1, y0, y1, ?_⟩
      unfold trL
      rw [Int.toNat_natCast, Int.toNat_natCast, hxD]
      congr 1
      rw [List.getD, List.getElem?_set_ne hij, hy]
      rfl
end Go.Proofs.Ythpgkngkmmameaa
