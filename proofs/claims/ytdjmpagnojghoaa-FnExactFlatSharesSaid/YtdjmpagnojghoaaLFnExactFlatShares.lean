/-
  PROVED: 'FnExactFlatShares' returns true for every input and leaves its arguments as they were. Conditions: none but the statement's own.
-/
import Derived.Test.YtdjmpagnojghoaaFrame
import Derived.Test.YtdjmpagnojghoaaFlat
namespace Go.Proofs.Ytdjmpagnojghoaa.fnExactFlatShares
open Go.ChangeShapes Go.WideShapes Go.ChangeAt Go.RowKit
open Go.ChangeMaps (open_string shut_string)
set_option linter.unusedVariables false

/-- THE WALK. -/
theorem walk (a0 : Int) (w : World) (w0 : (Lit.int .i64 a0).wf = true) :
    Calls Try.prog 6 #[.int .i64 a0] w fun e w' => e = .returned (.bool true) ∧ Below w.heap.size w w' := by
  go_enter Try.func6, Try.ntmps6
  go_wp2_with fail
  refine (spec_FlatShares_c a0 _ ).mono ?_
  rintro e w1 ⟨G1, n1, c1, rfl, L1, M1, o1, b1⟩
  have s1 : w.heap.size ≤ w1.heap.size := b1.size
  have bW1 : Below w.heap.size w w1 := b1
  go_wp2_with fail
  refine (impl_FlatShares_c a0 _ ).mono ?_
  rintro e w2 ⟨G2, n2, c2, rfl, L2, M2, o2, b2⟩
  have s2 : w1.heap.size ≤ w2.heap.size := b2.size
  have bW2 : Below w.heap.size w w2 := below_step bW1 b2 (by omega)
  go_wp2_with fail
  refine (laws_eqInt64S_c _ _ _ _ _ _ (fsV a0) _ L2.out L1.out (by omega) (o2.ri) ((o1.below b2).ri)).mono ?_
  rintro e w3 ⟨rfl, b3⟩
  have s3 : w2.heap.size ≤ w3.heap.size := b3.size
  have bW3 : Below w.heap.size w w3 := below_step bW2 b3 (by omega)
  go_wp2_with fail
  refine (laws_markInt64S_c _ _ _ (fsV a0) _ _ _ _ L2.out (by omega) (by omega) (by omega) ((o2.below b3))).mono ?_
  rintro e w4 ⟨rfl, o4, k4⟩
  have s4 : w3.heap.size ≤ w4.heap.size := k4.size
  have bW4 : Below w.heap.size w w4 := bW3.trans (k4.below (by omega) (by omega))
  go_wp2_with fail
  refine (laws_heldInt64S_c _ _ _ _ _ (by omega) (by omega) (by omega) (o4.ri)).mono ?_
  rintro e w' ⟨rfl, rfl⟩
  go_wp2_with fail
  refine (impl_FlatShares_c a0 _ ).mono ?_
  rintro e w5 ⟨G5, n5, c5, rfl, L5, M5, o5, b5⟩
  have s5 : w4.heap.size ≤ w5.heap.size := b5.size
  have bW5 : Below w.heap.size w w5 := below_step bW4 b5 (by omega)
  go_wp2_with fail
  refine (laws_eqInt64S_c _ _ _ _ _ _ (fsV a0) _ L5.out L1.out (by omega) (o5.ri) (((((o1.below b2).below b3).kept k4 (by omega)).below b5).ri)).mono ?_
  rintro e w6 ⟨rfl, b6⟩
  have s6 : w5.heap.size ≤ w6.heap.size := b6.size
  have bW6 : Below w.heap.size w w6 := below_step bW5 b6 (by omega)
  go_wp2_with fail
  refine (laws_heldInt64S_c _ _ _ _ _ (by omega) (by omega) (by omega) (((o4.below b5).below b6).ri)).mono ?_
  rintro e w' ⟨rfl, rfl⟩
  go_wp2_with fail
  go_ret
  exact ⟨rfl, bW6⟩

set_option maxRecDepth 100000 in
theorem lifted (os : Os) (started : os.Started) (H : Type) (enc : TypeId × Value → H) :
    ReturnsInHanded {} Try.checked os 6 .any (Rows.fnExactFlatSharesSpec.pre6 enc Try.prog Try.f6 Rows.fnExactFlatSharesRow.domain false) (Rows.fnExactFlatSharesSpec.post enc Try.prog Try.f6 false true false false) := by
  refine returnsInHanded_of_change (C := Try.checked) own started (by kernel_rfl) Try.func6
    (ChangeSpec.witness6 (enc := enc) (C := Try.checked) false ⟨#[], #[.int .i64 0], []⟩ 8 (by kernel_rfl) (by kernel_rfl) (by kernel_rfl) (by kernel_rfl)) ?_
  intro W base args ds gs before hval0 hW hcnd _
  have hval : ∀ (j : Nat) t v, Try.f6.params[j]? = some t → args[j]? = some v → Value.okWide Try.prog W .any base t v := hval0
  have hW' := hW
  obtain ⟨p, q, hA0, hV, rfl, hfz, hnd⟩ := hW
  have hA : DataW.TrodAll enc Try.prog W 0 (fun _ => true) true Try.f6.params.toList args.toList ds p := hA0
  rw [Try.params6] at hA hval
  obtain ⟨v0, vs0, d0, ds0, p0, q0, hargs, rfl, rfl, h0, r0⟩ := trodAll_cons hA
  obtain ⟨rfl, rfl, rfl⟩ := trodAll_nil r0
  obtain rfl : args = #[v0] := by cases args; simp_all
  obtain ⟨rfl, rfl⟩ := trodVars_none hV
  obtain ⟨a0, rfl, rfl, rfl, w0⟩ := open_int Try.underlying2 (hval 0 2 v0 rfl rfl) h0
  clear hA0 hval0
  refine (walk a0 W w0).mono fun e W' ⟨he, bel⟩ => ?_
  subst he
  exact ⟨_, rfl, _, _, _, [], _, [], hW', trodAll_mk1 (shut_bool Try.underlying4 _), (trodAll_cons_mk (shut_int Try.underlying2 w0) trodAll_mk0), rfl, bel.frame _, fun h => by cases h⟩

theorem over : Rows.fnExactFlatSharesRow.holds Try.pinned (OpenSpec.ofChange Rows.fnExactFlatSharesSpec) :=
  OpenClaim.holds_of_wide 6 Try.f6 rfl rfl rfl rfl rfl rfl rfl ⟨rfl, rfl, rfl, rfl, rfl⟩ rfl rfl rfl rfl rfl (by kernel_rfl) Try.func6 (by kernel_rfl)
    (of_decide_eq_true (by kernel_rfl)) (by unfold Func.isWrapper; first | (rw [if_pos (by decide +kernel)]; kernel_rfl) | (rw [if_neg (by decide +kernel)]; exact ⟨rfl, rfl⟩))
    (fun os started H enc _ => lifted os started H enc)

/-- THE STATEMENT. -/
theorem proved : Rows.FnExactFlatSharesSaid := over
#print axioms proved
end Go.Proofs.Ytdjmpagnojghoaa.fnExactFlatShares
