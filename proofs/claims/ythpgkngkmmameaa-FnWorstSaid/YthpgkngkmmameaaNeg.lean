/-
  A ratio's opposite. No program stands here.
-/
import Derived.Test.YthpgkngkmmameaaRatio
import Derived.IntWalk
namespace Go.Proofs.Ythpgkngkmmameaa
open Go.RowKit
set_option linter.unusedVariables false
theorem absI_neg (n : Int) : absI (-n) = absI n := by unfold absI; rw [Int.natAbs_neg]
theorem isR_neg {n d : Int} (h : isR n d = true) : isR (-n) d = true := by
  rw [isR_iff] at h ⊢
  obtain ⟨h1, h2, h3, h4, h5⟩ := h
  exact ⟨by omega, by omega, h3, h4, by rw [absI_neg]; exact h5⟩
theorem wrap_neg {n d : Int} (h : isR n d = true) : wrap64 (-n) = -n := by
  obtain ⟨h1, h2, -⟩ := isR_iff.1 h
  exact IntWalk.wrap64_in _ (by omega)
end Go.Proofs.Ythpgkngkmmameaa
