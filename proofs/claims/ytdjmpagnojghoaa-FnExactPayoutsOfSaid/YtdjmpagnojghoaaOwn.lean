/-
  The contracts of l01Own, slices.Clone: a copy of a list that is not empty. Conditions: at most 1048576 elements.
-/
import Derived.Test.YtdjmpagnojghoaaSpread
import Derived.Lib.SliceRun
namespace Go.Proofs.Ytdjmpagnojghoaa
open Go.RowKit
set_option linter.unusedVariables false
theorem ret_sliceN {A : Option Addr} {n m c : Nat} (h : n = m) : Ending.returned (.slice A n c) = .returned (.slice A m c) := by rw [h]
/-- A list of the call's own is handed back. -/
def SL (w : World) (n : Nat) (V : List Int) (e : Ending) (w' : World) : Prop := ∃ g c', e = .returned (.slice (some ⟨g, 0, none⟩) n c') ∧ OI w' w.heap.size w'.heap.size (some ⟨g, 0, none⟩) V ∧ Below w.heap.size w w'
theorem OI.cellX {w : World} {lo hi b off j : Nat} {zs : List Int} {x : Int} (h : OI w lo hi (some ⟨b, off, none⟩) zs) (hx : zs[j]? = some x) : w.cell? ⟨b, off + j, none⟩ = some (.int .i64 x) ∧ w.frozen? ⟨b, off + j, none⟩ = false := by
  rcases h with e | ⟨b', off', e, _, _, _, hc, hf⟩
  · rw [e] at hx; simp at hx
  · injection e with e; injection e with e1 e2; subst e1 e2
    exact ⟨hc j x hx, hf _⟩
theorem OI.exact {w : World} {lo hi g off : Nat} {zs : List Int} (h : OI w lo hi (some ⟨g, off, none⟩) zs) : OI w g (g + 1) (some ⟨g, off, none⟩) zs := by
  rcases h with h | ⟨b, o, e, l1, l2, h2, h3, h4⟩
  · exact .inl h
  · injection e with e; injection e with e1 e2; subst e1 e2
    exact .inr ⟨g, off, rfl, Nat.le_refl _, by omega, h2, h3, h4⟩
end Go.Proofs.Ytdjmpagnojghoaa
