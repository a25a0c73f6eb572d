/-
  The contracts of within, l01In, isCard, l02Card. Conditions: none.
-/
import Derived.Test.YtoibjedpniepbaaBase
namespace Go.Proofs.Ytoibjedpniepbaa
open Go.RowKit
set_option linter.unusedVariables false

theorem impl_within_c (n lo hi : Int) (w : World) : Calls Try.prog 54 #[.int .i64 n, .int .i64 lo, .int .i64 hi] w fun e w' => e = .returned (.bool (inB n lo hi)) ∧ w = w' := by
  by_cases h1 : lo ≤ n <;> by_cases h2 : n ≤ hi
  all_goals
    go_enter Try.func54, Try.ntmps54
    go_wp2
    go_ret
    exact ⟨by simp [inB, h1, h2], rfl⟩
theorem spec_l01In_c (n lo hi : Int) (w : World) : Calls Try.prog 53 #[.int .i64 n, .int .i64 lo, .int .i64 hi] w fun e w' => e = .returned (.bool (inB n lo hi)) ∧ w = w' := by
  by_cases h1 : lo ≤ n <;> by_cases h2 : n ≤ hi
  all_goals
    go_enter Try.func53, Try.ntmps53
    go_wp2
    go_ret
    exact ⟨by simp [inB, h1, h2], rfl⟩
end Go.Proofs.Ytoibjedpniepbaa
