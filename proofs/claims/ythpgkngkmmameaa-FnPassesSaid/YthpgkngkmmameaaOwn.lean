/-
  The contracts of l01Own, slices.Clone: a copy of a list that is not empty. Conditions: at most 1048576 elements.
-/
import Derived.Test.YthpgkngkmmameaaSpread
import Derived.Lib.SliceRun
namespace Go.Proofs.Ythpgkngkmmameaa
open Go.RowKit
set_option linter.unusedVariables false
theorem ret_sliceN {A : Option Addr} {n m c : Nat} (h : n = m) : Ending.returned (.slice A n c) = .returned (.slice A m c) := by rw [h]
/-- A list of the call's own is handed back. -/
def SL (w : World) (n : Nat) (V : List Int) (e : Ending) (w' : World) : Prop := ∃ g c', e = .returned (.slice (some ⟨g, 0, none⟩) n c') ∧ OI w' w.heap.size w'.heap.size (some ⟨g, 0, none⟩) V ∧ Below w.heap.size w w'
theorem OI.cellX {w : World} {lo hi b off j : Nat} {zs : List Int} {x : Int} (h : OI w lo hi (some ⟨b, off, none⟩) zs) (hx : zs[j]? = some x) : w.cell? ⟨b, off + j, none⟩ = some (.int .i64 x) ∧ w.frozen? ⟨b, off + j, none⟩ = false := by
  rcases h with e | ⟨b', off', e, _, _, _, hc, hf⟩
  · rw [e] at hx; simp at hx
  · injection e with e; injection e with e1 e2; subst e1 e2
    exact ⟨hc j x hx, hf _⟩
theorem OI.exact {w : World} {lo hi g off : Nat} {zs : List Int} (h : OI w lo hi (some ⟨g, off, none⟩) zs) : OI w g (g + 1) (some ⟨g, off, none⟩) zs := by
  rcases h with h | ⟨b, o, e, l1, l2, h2, h3, h4⟩
  · exact .inl h
  · injection e with e; injection e with e1 e2; subst e1 e2
    exact .inr ⟨g, off, rfl, Nat.le_refl _, by omega, h2, h3, h4⟩
theorem spec_l01Own_c (A : Option Addr) (n c : Nat) (zs : List Int) (w : World) (hn : zs.length = n) (h1 : 1 ≤ n) (hm : n ≤ 1048576) (hr : RI w A zs) :
    Calls Try.prog 182 #[.slice A n c] w fun e w' => ∃ g c', e = .returned (.slice (some ⟨g, 0, none⟩) n c') ∧ Row w' w.heap.size (some ⟨g, 0, none⟩) n c' zs ∧ Below w.heap.size w w' := by
  rcases hr.split with h0 | ⟨b, off, rfl, hb, hc⟩
  · omega
  have hrow := Row.empty w (Nat.le_refl w.heap.size)
  have hcs := Lib.hid (fun (j : Nat) (x : Int) (hx : zs[j]? = some x) => (((Below.refl w.heap.size w).alloc (Nat.le_refl _) (.cells #[] 2)).cell (p := ⟨b, off + j, none⟩) hb).trans (hc.out j x hx))
  have HN := Lib.hid hn
  clear hn
  go_enter Try.func182, Try.ntmps182
  go_wp2_with (at_builtin; refine wpList_appendS rfl _ _ rfl w.heap.size (some ⟨w.heap.size, 0, none⟩) 0 0 [] rfl hrow b off n c zs rfl HN.out hcs.out (by omega) (by omega) (by simp) ?_; intro g2 c2 w5 hr5 hb5 hg5)
  go_ret
  rw [Nat.zero_add, List.nil_append] at hr5
  exact ⟨g2, c2, ret_sliceN (by omega), hr5, ((Below.refl _ _).alloc (Nat.le_refl _) _).trans hb5⟩
theorem slices_Clone_c (A : Option Addr) (n c : Nat) (zs : List Int) (w : World) (hn : zs.length = n) (h1 : 1 ≤ n) (hm : n ≤ 1048576) (hr : RI w A zs) :
    Calls Try.prog 161 #[.slice A n c] w fun e w' => ∃ g c', e = .returned (.slice (some ⟨g, 0, none⟩) n c') ∧ Row w' w.heap.size (some ⟨g, 0, none⟩) n c' zs ∧ Below w.heap.size w w' := by
  rcases hr.split with h0 | ⟨b, off, rfl, hb, hc⟩
  · omega
  have hrow := Row.empty w (Nat.le_refl w.heap.size)
  have hcs := Lib.hid (fun (j : Nat) (x : Int) (hx : zs[j]? = some x) => (((Below.refl w.heap.size w).alloc (Nat.le_refl _) (.cells #[] 2)).cell (p := ⟨b, off + j, none⟩) hb).trans (hc.out j x hx))
  have HN := Lib.hid hn
  clear hn
  have hq : ∀ (w : World) (a : Option Addr) (n c n' c' : Nat), (binOp .eql 22 (.slice a n c) (.slice none n' c')).run Try.prog w = .ok (.bool a.isNone) w := fun w a n c n' c' => Lib.run_eql_slice_nil w _ _ a n c n' c' Try.underlying22
  go_enter Try.func161, Try.ntmps161
  go_wp2_with (at_builtin; refine wpList_appendS rfl _ _ rfl w.heap.size (some ⟨w.heap.size, 0, none⟩) 0 0 [] rfl hrow b off n c zs rfl HN.out hcs.out (by omega) (by omega) (by simp) ?_; intro g2 c2 w5 hr5 hb5 hg5)
  go_ret
  rw [Nat.zero_add, List.nil_append] at hr5
  exact ⟨g2, c2, ret_sliceN (by omega), hr5, ((Below.refl _ _).alloc (Nat.le_refl _) _).trans hb5⟩
end Go.Proofs.Ythpgkngkmmameaa
