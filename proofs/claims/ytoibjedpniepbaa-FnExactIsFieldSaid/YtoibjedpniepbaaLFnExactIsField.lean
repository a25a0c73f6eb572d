/-
  PROVED: 'FnExactIsField' returns true for every input and leaves its arguments as they were. Conditions: none but the statement's own.
-/
import Derived.Test.YtoibjedpniepbaaFrame
import Derived.Test.YtoibjedpniepbaaField
import Derived.Test.YtoibjedpniepbaaArg
namespace Go.Proofs.Ytoibjedpniepbaa.fnExactIsField
open Go.ChangeShapes Go.WideShapes Go.ChangeAt Go.RowKit
open Go.ChangeMaps (open_string shut_string)
set_option linter.unusedVariables false

/-- THE WALK. -/
theorem walk (a0 : Option Addr) (len0 cap0 : Nat) (z0 : List Int) (w : World) (w0 : IsRow .i64 w a0 len0 cap0 z0) :
    Calls Try.prog 3 #[.slice a0 len0 cap0] w fun e w' => e = .returned (.bool true) ∧ Below w.heap.size w w' := by
  have r0 : RI w a0 (z0.take len0) := isRow_ri w0
  have l0 : (z0.take len0).length = len0 := isRow_len w0
  have H0 := Lib.hid l0
  clear l0
  by_cases hb0 : 1048576 < len0
  · go_enter Try.func3, Try.ntmps3
    go_wp2_with fail
    go_ret
    exact ⟨rfl, Below.refl _ _⟩
  go_enter Try.func3, Try.ntmps3
  go_wp2_with fail
  refine (laws_toInt64S_c _ _ _ (z0.take len0) _ H0.out (by omega) r0).mono ?_
  rintro e w1 ⟨g1, rfl, o1, b1⟩
  have s1 : w.heap.size ≤ w1.heap.size := b1.size
  have bW1 : Below w.heap.size w w1 := b1
  go_wp2_with fail
  refine (spec_IsField_c _ _ _ (z0.take len0) _ H0.out (by omega) (o1.ri)).mono ?_
  rintro e w' ⟨rfl, rfl⟩
  go_wp2_with fail
  refine (laws_toInt64S_c _ _ _ (z0.take len0) _ H0.out (by omega) (r0.below bW1)).mono ?_
  rintro e w2 ⟨g2, rfl, o2, b2⟩
  have s2 : w1.heap.size ≤ w2.heap.size := b2.size
  have bW2 : Below w.heap.size w w2 := below_step bW1 b2 (by omega)
  go_wp2_with fail
  refine (impl_IsField_c _ _ _ (z0.take len0) _ H0.out (by omega) (o2.ri)).mono ?_
  rintro e w' ⟨rfl, rfl⟩
  go_wp2_with fail
  refine (laws_toInt64S_c _ _ _ (z0.take len0) _ H0.out (by omega) (r0.below bW2)).mono ?_
  rintro e w3 ⟨g3, rfl, o3, b3⟩
  have s3 : w2.heap.size ≤ w3.heap.size := b3.size
  have bW3 : Below w.heap.size w w3 := below_step bW2 b3 (by omega)
  go_wp2_with fail
  refine (laws_eqInt64S_c _ _ _ _ _ _ (z0.take len0) _ H0.out H0.out (by omega) ((o2.below b3).ri) (o3.ri)).mono ?_
  rintro e w4 ⟨rfl, b4⟩
  have s4 : w3.heap.size ≤ w4.heap.size := b4.size
  have bW4 : Below w.heap.size w w4 := below_step bW3 b4 (by omega)
  go_wp2_with fail
  go_ret
  exact ⟨rfl, bW4⟩

set_option maxRecDepth 100000 in
theorem lifted (os : Os) (started : os.Started) (H : Type) (enc : TypeId × Value → H) :
    ReturnsInHanded {} Try.checked os 3 .any (Rows.fnExactIsFieldSpec.pre6 enc Try.prog Try.f3 Rows.fnExactIsFieldRow.domain false) (Rows.fnExactIsFieldSpec.post enc Try.prog Try.f3 false true false false) := by
  refine returnsInHanded_of_change (C := Try.checked) own started (by kernel_rfl) Try.func3
    (ChangeSpec.witness6 (enc := enc) (C := Try.checked) false ⟨#[], #[.slice none 0 0], []⟩ 8 (by kernel_rfl) (by kernel_rfl) (by kernel_rfl) (by kernel_rfl)) ?_
  intro W base args ds gs before hval0 hW hcnd _
  have hval : ∀ (j : Nat) t v, Try.f3.params[j]? = some t → args[j]? = some v → Value.okWide Try.prog W .any base t v := hval0
  have hW' := hW
  obtain ⟨p, q, hA0, hV, rfl, hfz, hnd⟩ := hW
  have hA : DataW.TrodAll enc Try.prog W 0 (fun _ => true) true Try.f3.params.toList args.toList ds p := hA0
  rw [Try.params3] at hA hval
  obtain ⟨v0, vs0, d0, ds0, p0, q0, hargs, rfl, rfl, h0, r0⟩ := trodAll_cons hA
  obtain ⟨rfl, rfl, rfl⟩ := trodAll_nil r0
  obtain rfl : args = #[v0] := by cases args; simp_all
  obtain ⟨rfl, rfl⟩ := trodVars_none hV
  obtain ⟨a0, len0, cap0, rfl⟩ := okWide_slice Try.underlying22 (hval 0 22 v0 rfl rfl)
  have k0 := h0
  have lt0 : ∀ x ∈ p0, x.block < W.heap.size := by obtain ⟨m, hm⟩ := k0; exact DataW.trod_lt m _ _ _ hm
  obtain ⟨z0, w0⟩ : ∃ zs, IsRow .i64 W a0 len0 cap0 zs := by
    obtain ⟨fuel, hf⟩ := h0
    rcases open_ints Try.underlying22 Try.underlying2 (by kernel_rfl) hf with ⟨hcs, _⟩ | ⟨x, l, c, zs, hcs, _, hl, hm, hz, _, hcell, hwz⟩
    · simp [Value.cells] at hcs
      obtain ⟨rfl, rfl, rfl⟩ := hcs
      exact ⟨[], .inl ⟨rfl, rfl, rfl, rfl⟩⟩
    · simp [Value.cells] at hcs
      obtain ⟨rfl, rfl, rfl⟩ := hcs
      exact ⟨zs, .inr ⟨_, rfl, hl, hm, by simpa using hz, hcell, hwz⟩⟩
  clear hA0 hval0
  refine (walk a0 len0 cap0 z0 W w0).mono fun e W' ⟨he, bel⟩ => ?_
  subst he
  exact ⟨_, rfl, _, _, _, [], _, [], hW', trodAll_mk1 (shut_bool Try.underlying4 _), (trodAll_cons_mk (Below.trod laidOut (by kernel_rfl) (of_decide_eq_true (by kernel_rfl)) k0 bel lt0) trodAll_mk0), rfl, bel.frame _, fun h => by cases h⟩

theorem over : Rows.fnExactIsFieldRow.holds Try.pinned (OpenSpec.ofChange Rows.fnExactIsFieldSpec) :=
  OpenClaim.holds_of_wide 3 Try.f3 rfl rfl rfl rfl rfl rfl rfl ⟨rfl, rfl, rfl, rfl, rfl⟩ rfl rfl rfl rfl rfl (by kernel_rfl) Try.func3 (by kernel_rfl)
    (of_decide_eq_true (by kernel_rfl)) (by unfold Func.isWrapper; first | (rw [if_pos (by decide +kernel)]; kernel_rfl) | (rw [if_neg (by decide +kernel)]; exact ⟨rfl, rfl⟩))
    (fun os started H enc _ => lifted os started H enc)

/-- THE STATEMENT. -/
theorem proved : Rows.FnExactIsFieldSaid := over
#print axioms proved
end Go.Proofs.Ytoibjedpniepbaa.fnExactIsField
