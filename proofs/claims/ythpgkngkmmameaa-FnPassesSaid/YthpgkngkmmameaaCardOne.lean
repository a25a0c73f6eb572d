/-
  The contracts of within, l01In, isCard, l02Card. Conditions: none.
-/
import Derived.Test.YthpgkngkmmameaaBase
namespace Go.Proofs.Ythpgkngkmmameaa
open Go.RowKit
set_option linter.unusedVariables false

theorem impl_within_c (n lo hi : Int) (w : World) : Calls Try.prog 94 #[.int .i64 n, .int .i64 lo, .int .i64 hi] w fun e w' => e = .returned (.bool (inB n lo hi)) ∧ w = w' := by
  by_cases h1 : lo ≤ n <;> by_cases h2 : n ≤ hi
  all_goals
    go_enter Try.func94, Try.ntmps94
    go_wp2
    go_ret
    exact ⟨by simp [inB, h1, h2], rfl⟩
theorem spec_l01In_c (n lo hi : Int) (w : World) : Calls Try.prog 98 #[.int .i64 n, .int .i64 lo, .int .i64 hi] w fun e w' => e = .returned (.bool (inB n lo hi)) ∧ w = w' := by
  by_cases h1 : lo ≤ n <;> by_cases h2 : n ≤ hi
  all_goals
    go_enter Try.func98, Try.ntmps98
    go_wp2
    go_ret
    exact ⟨by simp [inB, h1, h2], rfl⟩
theorem impl_isCard_c (n : Int) (w : World) : Calls Try.prog 191 #[.int .i64 n] w fun e w' => e = .returned (.bool (inB n 0 51)) ∧ w = w' := by
  go_enter Try.func191, Try.ntmps191
  go_wp2_with (go_at_call 94; refine (impl_within_c _ _ _ _).mono ?_; rintro e w' ⟨rfl, rfl⟩)
  go_ret
  exact ⟨rfl, rfl⟩
theorem spec_l02Card_c (n : Int) (w : World) : Calls Try.prog 184 #[.int .i64 n] w fun e w' => e = .returned (.bool (inB n 0 51)) ∧ w = w' := by
  go_enter Try.func184, Try.ntmps184
  go_wp2_with (go_at_call 98; refine (spec_l01In_c _ _ _ _).mono ?_; rintro e w' ⟨rfl, rfl⟩)
  go_ret
  exact ⟨rfl, rfl⟩
end Go.Proofs.Ythpgkngkmmameaa
