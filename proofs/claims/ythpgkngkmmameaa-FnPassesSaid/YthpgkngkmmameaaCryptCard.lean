/-
  The contracts of CardOfCode, l32Card, CommitTo and OpenElement. Conditions: none.
-/
import Derived.Test.YthpgkngkmmameaaCryptTop
namespace Go.Proofs.Ythpgkngkmmameaa
open Go.RowKit
set_option linter.unusedVariables false

/-- The first card from c on, of n cards, whose code is x; or -1. -/
def firstC (x : Int) : Nat → Int → Int
  | 0, _ => -1
  | n + 1, c => if codeI c = x then c else firstC x n (c + 1)
def cardI (x : Int) : Int := firstC x 52 0
theorem firstC_hit {x : Int} {k : Nat} (hk : k < 52) (h : codeI k = x) (hr : firstC x (52 - k) k = cardI x) : (k : Int) = cardI x := by
  rw [← hr, show 52 - k = (52 - (k + 1)) + 1 from by omega, firstC, if_pos h]
theorem firstC_miss {x : Int} {k : Nat} (hk : k < 52) (h : ¬ codeI k = x) (hr : firstC x (52 - k) k = cardI x) : firstC x (52 - (k + 1)) ((k + 1 : Nat) : Int) = cardI x := by
  rw [← hr, show 52 - k = (52 - (k + 1)) + 1 from by omega, firstC, if_neg h]
  rfl
theorem firstC_end {x : Int} {k : Nat} (hk : ¬ k < 52) (hr : firstC x (52 - k) k = cardI x) : -1 = cardI x := by
  rw [← hr, show 52 - k = 0 from by omega, firstC]
def cardV (x : Int) : Int := if inB x 1 2038 = true ∧ ¬ cardI x < 0 then cardI x else 0
def cardE (x : Int) : Int := if inB x 1 2038 = true then (if cardI x < 0 then 4 else 0) else 2
theorem cardI_range (x : Int) : -1 ≤ cardI x ∧ cardI x ≤ 51 := by
  have h : ∀ (n : Nat) (c : Int), 0 ≤ c → -1 ≤ firstC x n c ∧ firstC x n c < c + n + 1 ∧ (firstC x n c < c + n) := by
    intro n
    induction n with
    | zero => intro c hc; simp only [firstC]; omega
    | succ n ih =>
      intro c hc
      simp only [firstC]
      split
      · omega
      · have := ih (c + 1) (by omega); omega
  have := h 52 0 (by omega)
  unfold cardI
  omega



theorem impl_CardOfCode_c (x : Int) (w : World) : Calls Try.prog 140 #[.int .i64 x] w fun e w' => e = .returned (.tuple #[.int .i64 (cardV x), .int .i64 (cardE x)]) ∧ w = w' := by
  cases h1 : inB x 1 2038
  · have HV := Lib.hid (show cardV x = 0 by simp [cardV, h1])
    have HE := Lib.hid (show cardE x = 2 by simp [cardE, h1])
    go_enter Try.func140, Try.ntmps140
    go_wp2_with (go_at_call 94; refine (impl_within_c _ _ _ _).mono ?_; rintro e w' ⟨rfl, rfl⟩)
    go_ret2
    exact ⟨ret_int2 HV.out.symm HE.out.symm, rfl⟩
  · go_enter Try.func140, Try.ntmps140
    go_wp2_with (go_at_call 94; refine (impl_within_c _ _ _ _).mono ?_; rintro e w' ⟨rfl, rfl⟩)
    go_loop [8] (fun i => ∃ k : Nat, i = .int .i64 k ∧ k ≤ 52 ∧ firstC x (52 - k) k = cardI x) (fun i => 52 - (intOf i).toNat)
    case atStart => exact ⟨0, rfl, by omega, rfl⟩
    case round =>
      obtain ⟨k, rfl, hk, hr⟩ := hrel
      have HR := Lib.hid hr
      clear hr
      by_cases hlt : k < 52
      · by_cases hc : codeI k = x
        · have hb : (codeI k == x) = true := beq_iff_eq.2 hc
          have HC := Lib.hid hc
          clear hc
          go_wp2_with (go_at_call 169; refine (impl_codeOf_c _ _ (by omega) (by omega)).mono ?_; rintro e w' ⟨rfl, rfl⟩)
          go_ret2
          have hk2 := firstC_hit hlt HC.out HR.out
          refine ⟨ret_int2 ?_ ?_, rfl⟩
          · unfold cardV; rw [if_pos ⟨h1, by omega⟩]; exact hk2
          · unfold cardE; rw [if_pos h1, if_neg (by omega)]
        · have hb : (codeI k == x) = false := beq_eq_false_iff_ne.2 hc
          have HC := Lib.hid hc
          clear hc
          go_wp2_with (go_at_call 169; refine (impl_codeOf_c _ _ (by omega) (by omega)).mono ?_; rintro e w' ⟨rfl, rfl⟩)
          go_round
          case rel => exact ⟨k + 1, by go_num, by omega, firstC_miss hlt HC.out HR.out⟩
          case measure => simp [intOf]; omega
      · go_wp2_with fail
        go_ret2
        have hk2 := firstC_end hlt HR.out
        refine ⟨ret_int2 ?_ ?_, rfl⟩
        · unfold cardV; rw [if_neg (fun h => h.2 (by omega))]
        · unfold cardE; rw [if_pos h1, if_pos (by omega)]
end Go.Proofs.Ythpgkngkmmameaa
