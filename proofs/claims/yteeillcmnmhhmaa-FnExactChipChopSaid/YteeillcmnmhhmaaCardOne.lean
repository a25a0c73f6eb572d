/-
  The contracts of within, l01In, isCard, l02Card. Conditions: none.
-/
import Derived.Test.YteeillcmnmhhmaaBase
namespace Go.Proofs.Yteeillcmnmhhmaa
open Go.RowKit
set_option linter.unusedVariables false

theorem impl_within_c (n lo hi : Int) (w : World) : Calls Try.prog 59 #[.int .i64 n, .int .i64 lo, .int .i64 hi] w fun e w' => e = .returned (.bool (inB n lo hi)) ∧ w = w' := by
  by_cases h1 : lo ≤ n <;> by_cases h2 : n ≤ hi
  all_goals
    go_enter Try.func59, Try.ntmps59
    go_wp2
    go_ret
    exact ⟨by simp [inB, h1, h2], rfl⟩
theorem spec_l01In_c (n lo hi : Int) (w : World) : Calls Try.prog 58 #[.int .i64 n, .int .i64 lo, .int .i64 hi] w fun e w' => e = .returned (.bool (inB n lo hi)) ∧ w = w' := by
  by_cases h1 : lo ≤ n <;> by_cases h2 : n ≤ hi
  all_goals
    go_enter Try.func58, Try.ntmps58
    go_wp2
    go_ret
    exact ⟨by simp [inB, h1, h2], rfl⟩
end Go.Proofs.Yteeillcmnmhhmaa
