/-
  The contract of the laws' comparison of two ratios. Conditions: both are the same.
-/
import Derived.Test.YtoibjedpniepbaaBase
import Derived.Test.YtoibjedpniepbaaArg
namespace Go.Proofs.Ytoibjedpniepbaa
open Go.RowKit
set_option linter.unusedVariables false
theorem laws_eqRatio_c (a b : Int) (w : World) : Calls Try.prog 27 #[.agg #[.int .i64 a, .int .i64 b], .agg #[.int .i64 a, .int .i64 b]] w fun e w' => e = .returned (.bool true) ∧ Below w.heap.size w w' := by
  go_enter Try.func27, Try.ntmps27
  go_wp2_with fail
  go_ret
  exact ⟨rfl, ((Below.refl _ _).alloc (Nat.le_refl _) _).alloc (by simp) _⟩
end Go.Proofs.Ytoibjedpniepbaa
