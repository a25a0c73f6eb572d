/-
  PROVED: 'FnExactSavePrize' returns true for every input and leaves its arguments as they were. Conditions: none but the statement's own.
-/
import Derived.Test.YteeillcmnmhhmaaFrame
import Derived.Test.YteeillcmnmhhmaaDealsC
namespace Go.Proofs.Yteeillcmnmhhmaa.fnExactSavePrize
open Go.ChangeShapes Go.WideShapes Go.ChangeAt Go.RowKit
open Go.ChangeMaps (open_string shut_string)
set_option linter.unusedVariables false

/-- THE WALK. -/
theorem walk (a0 : Option Addr) (len0 cap0 : Nat) (z0 : List Int) (a1 : Int) (w : World) (w0 : IsRow .i64 w a0 len0 cap0 z0) (w1 : (Lit.int .i64 a1).wf = true) :
    Calls Try.prog 7 #[.slice a0 len0 cap0, .int .i64 a1] w fun e w' => e = .returned (.bool true) ∧ Below w.heap.size w w' := by
  have r0 : RI w a0 (z0.take len0) := isRow_ri w0
  have l0 : (z0.take len0).length = len0 := isRow_len w0
  have H0 := Lib.hid l0
  clear l0
  by_cases hb0 : 1048576 < len0
  · go_enter Try.func7, Try.ntmps7
    go_wp2_with fail
    go_ret
    exact ⟨rfl, Below.refl _ _⟩
  go_enter Try.func7, Try.ntmps7
  go_wp2_with fail
  refine (laws_toInt64S_c _ _ _ (z0.take len0) _ H0.out (by omega) r0).mono ?_
  rintro e w1 ⟨g1, rfl, o1, b1⟩
  have s1 : w.heap.size ≤ w1.heap.size := b1.size
  have bW1 : Below w.heap.size w w1 := b1
  go_wp2_with fail
  refine (spec_SavePrize_c _ _ _ (z0.take len0) a1 _ H0.out (by omega) (o1.ri)).mono ?_
  rintro e w2 ⟨G2, n2, c2, rfl, L2, M2, o2, b2⟩
  have s2 : w1.heap.size ≤ w2.heap.size := b2.size
  have bW2 : Below w.heap.size w w2 := below_step bW1 b2 (by omega)
  go_wp2_with fail
  refine (laws_toInt64S_c _ _ _ (z0.take len0) _ H0.out (by omega) (r0.below bW2)).mono ?_
  rintro e w3 ⟨g3, rfl, o3, b3⟩
  have s3 : w2.heap.size ≤ w3.heap.size := b3.size
  have bW3 : Below w.heap.size w w3 := below_step bW2 b3 (by omega)
  go_wp2_with fail
  refine (impl_SavePrize_c _ _ _ (z0.take len0) a1 _ H0.out (by omega) (o3.ri)).mono ?_
  rintro e w4 ⟨G4, n4, c4, rfl, L4, M4, o4, b4⟩
  have s4 : w3.heap.size ≤ w4.heap.size := b4.size
  have bW4 : Below w.heap.size w w4 := below_step bW3 b4 (by omega)
  go_wp2_with fail
  refine (laws_eqInt64S_c _ _ _ _ _ _ (spV (z0.take len0) a1) _ L4.out L2.out (by omega) (o4.ri) (((o2.below b3).below b4).ri)).mono ?_
  rintro e w5 ⟨rfl, b5⟩
  have s5 : w4.heap.size ≤ w5.heap.size := b5.size
  have bW5 : Below w.heap.size w w5 := below_step bW4 b5 (by omega)
  go_wp2_with fail
  refine (laws_toInt64S_c _ _ _ (z0.take len0) _ H0.out (by omega) (r0.below bW5)).mono ?_
  rintro e w6 ⟨g6, rfl, o6, b6⟩
  have s6 : w5.heap.size ≤ w6.heap.size := b6.size
  have bW6 : Below w.heap.size w w6 := below_step bW5 b6 (by omega)
  go_wp2_with fail
  refine (laws_eqInt64S_c _ _ _ _ _ _ (z0.take len0) _ H0.out H0.out (by omega) ((((o3.below b4).below b5).below b6).ri) (o6.ri)).mono ?_
  rintro e w7 ⟨rfl, b7⟩
  have s7 : w6.heap.size ≤ w7.heap.size := b7.size
  have bW7 : Below w.heap.size w w7 := below_step bW6 b7 (by omega)
  go_wp2_with fail
  refine (laws_markInt64S_c _ _ _ (z0.take len0) _ _ _ _ H0.out (by omega) (by omega) (by omega) (((((o3.below b4).below b5).below b6).below b7))).mono ?_
  rintro e w8 ⟨rfl, o8, k8⟩
  have s8 : w7.heap.size ≤ w8.heap.size := k8.size
  have bW8 : Below w.heap.size w w8 := bW7.trans (k8.below (by omega) (by omega))
  go_wp2_with fail
  refine (laws_eqInt64S_c _ _ _ _ _ _ (spV (z0.take len0) a1) _ L4.out L2.out (by omega) (((((o4.below b5).below b6).below b7).kept k8 (by omega)).ri) (((((((o2.below b3).below b4).below b5).below b6).below b7).kept k8 (by omega)).ri)).mono ?_
  rintro e w9 ⟨rfl, b9⟩
  have s9 : w8.heap.size ≤ w9.heap.size := b9.size
  have bW9 : Below w.heap.size w w9 := below_step bW8 b9 (by omega)
  go_wp2_with fail
  refine (laws_markInt64S_c _ _ _ (spV (z0.take len0) a1) _ _ _ _ L4.out (by omega) (by omega) (by omega) ((((((o4.below b5).below b6).below b7).kept k8 (by omega)).below b9))).mono ?_
  rintro e w10 ⟨rfl, o10, k10⟩
  have s10 : w9.heap.size ≤ w10.heap.size := k10.size
  have bW10 : Below w.heap.size w w10 := bW9.trans (k10.below (by omega) (by omega))
  go_wp2_with fail
  refine (laws_heldInt64S_c _ _ _ _ _ (by omega) (by omega) (by omega) (o10.ri)).mono ?_
  rintro e w' ⟨rfl, rfl⟩
  go_wp2_with fail
  refine (laws_toInt64S_c _ _ _ (z0.take len0) _ H0.out (by omega) (r0.below bW10)).mono ?_
  rintro e w11 ⟨g11, rfl, o11, b11⟩
  have s11 : w10.heap.size ≤ w11.heap.size := b11.size
  have bW11 : Below w.heap.size w w11 := below_step bW10 b11 (by omega)
  go_wp2_with fail
  refine (impl_SavePrize_c _ _ _ (z0.take len0) a1 _ H0.out (by omega) (o11.ri)).mono ?_
  rintro e w12 ⟨G12, n12, c12, rfl, L12, M12, o12, b12⟩
  have s12 : w11.heap.size ≤ w12.heap.size := b12.size
  have bW12 : Below w.heap.size w w12 := below_step bW11 b12 (by omega)
  go_wp2_with fail
  refine (laws_eqInt64S_c _ _ _ _ _ _ (spV (z0.take len0) a1) _ L12.out L2.out (by omega) (o12.ri) (((((((((((o2.below b3).below b4).below b5).below b6).below b7).kept k8 (by omega)).below b9).kept k10 (by omega)).below b11).below b12).ri)).mono ?_
  rintro e w13 ⟨rfl, b13⟩
  have s13 : w12.heap.size ≤ w13.heap.size := b13.size
  have bW13 : Below w.heap.size w w13 := below_step bW12 b13 (by omega)
  go_wp2_with fail
  refine (laws_heldInt64S_c _ _ _ _ _ (by omega) (by omega) (by omega) ((((o10.below b11).below b12).below b13).ri)).mono ?_
  rintro e w' ⟨rfl, rfl⟩
  go_wp2_with fail
  go_ret
  exact ⟨rfl, bW13⟩

set_option maxRecDepth 100000 in
theorem lifted (os : Os) (started : os.Started) (H : Type) (enc : TypeId × Value → H) :
    ReturnsInHanded {} Try.checked os 7 .any (Rows.fnExactSavePrizeSpec.pre6 enc Try.prog Try.f7 Rows.fnExactSavePrizeRow.domain false) (Rows.fnExactSavePrizeSpec.post enc Try.prog Try.f7 false true false false) := by
  refine returnsInHanded_of_change (C := Try.checked) own started (by kernel_rfl) Try.func7
    (ChangeSpec.witness6 (enc := enc) (C := Try.checked) false ⟨#[], #[.slice none 0 0, .int .i64 0], []⟩ 8 (by kernel_rfl) (by kernel_rfl) (by kernel_rfl) (by kernel_rfl)) ?_
  intro W base args ds gs before hval0 hW hcnd _
  have hval : ∀ (j : Nat) t v, Try.f7.params[j]? = some t → args[j]? = some v → Value.okWide Try.prog W .any base t v := hval0
  have hW' := hW
  obtain ⟨p, q, hA0, hV, rfl, hfz, hnd⟩ := hW
  have hA : DataW.TrodAll enc Try.prog W 0 (fun _ => true) true Try.f7.params.toList args.toList ds p := hA0
  rw [Try.params7] at hA hval
  obtain ⟨v0, vs0, d0, ds0, p0, q0, hargs, rfl, rfl, h0, r0⟩ := trodAll_cons hA
  obtain ⟨v1, vs1, d1, ds1, p1, q1, rfl, rfl, rfl, h1, r1⟩ := trodAll_cons r0
  obtain ⟨rfl, rfl, rfl⟩ := trodAll_nil r1
  obtain rfl : args = #[v0, v1] := by cases args; simp_all
  obtain ⟨rfl, rfl⟩ := trodVars_none hV
  obtain ⟨a0, len0, cap0, rfl⟩ := okWide_slice Try.underlying22 (hval 0 22 v0 rfl rfl)
  have k0 := h0
  have lt0 : ∀ x ∈ p0, x.block < W.heap.size := by obtain ⟨m, hm⟩ := k0; exact DataW.trod_lt m _ _ _ hm
  obtain ⟨z0, w0⟩ : ∃ zs, IsRow .i64 W a0 len0 cap0 zs := by
    obtain ⟨fuel, hf⟩ := h0
    rcases open_ints Try.underlying22 Try.underlying2 (by kernel_rfl) hf with ⟨hcs, _⟩ | ⟨x, l, c, zs, hcs, _, hl, hm, hz, _, hcell, hwz⟩
    · simp [Value.cells] at hcs
      obtain ⟨rfl, rfl, rfl⟩ := hcs
      exact ⟨[], .inl ⟨rfl, rfl, rfl, rfl⟩⟩
    · simp [Value.cells] at hcs
      obtain ⟨rfl, rfl, rfl⟩ := hcs
      exact ⟨zs, .inr ⟨_, rfl, hl, hm, by simpa using hz, hcell, hwz⟩⟩
  obtain ⟨a1, rfl, rfl, rfl, w1⟩ := open_int Try.underlying2 (hval 1 2 v1 rfl rfl) h1
  clear hA0 hval0
  refine (walk a0 len0 cap0 z0 a1 W w0 w1).mono fun e W' ⟨he, bel⟩ => ?_
  subst he
  exact ⟨_, rfl, _, _, _, [], _, [], hW', trodAll_mk1 (shut_bool Try.underlying4 _), (trodAll_cons_mk (Below.trod laidOut (by kernel_rfl) (of_decide_eq_true (by kernel_rfl)) k0 bel lt0) (trodAll_cons_mk (shut_int Try.underlying2 w1) trodAll_mk0)), rfl, bel.frame _, fun h => by cases h⟩

theorem over : Rows.fnExactSavePrizeRow.holds Try.pinned (OpenSpec.ofChange Rows.fnExactSavePrizeSpec) :=
  OpenClaim.holds_of_wide 7 Try.f7 rfl rfl rfl rfl rfl rfl rfl ⟨rfl, rfl, rfl, rfl, rfl⟩ rfl rfl rfl rfl rfl (by kernel_rfl) Try.func7 (by kernel_rfl)
    (of_decide_eq_true (by kernel_rfl)) (by unfold Func.isWrapper; first | (rw [if_pos (by decide +kernel)]; kernel_rfl) | (rw [if_neg (by decide +kernel)]; exact ⟨rfl, rfl⟩))
    (fun os started H enc _ => lifted os started H enc)

/-- THE STATEMENT. -/
theorem proved : Rows.FnExactSavePrizeSaid := over
#print axioms proved
end Go.Proofs.Yteeillcmnmhhmaa.fnExactSavePrize
