/-
  PROVED: 'FnExactModelChop' returns true for every input and leaves its arguments as they were. Conditions: none but the statement's own.
-/
import Derived.Test.YthpgkngkmmameaaFrame
import Derived.Test.YthpgkngkmmameaaChopImpl
import Derived.Test.YthpgkngkmmameaaChopSpec
import Derived.Test.YthpgkngkmmameaaArg
namespace Go.Proofs.Ythpgkngkmmameaa.fnExactModelChop
open Go.ChangeShapes Go.WideShapes Go.ChangeAt Go.RowKit
open Go.ChangeMaps (open_string shut_string)
set_option linter.unusedVariables false

/-- THE WALK. -/
theorem walk (a0 : Option Addr) (len0 cap0 : Nat) (z0 : List Int) (a1 : Option Addr) (len1 cap1 : Nat) (z1 : List Int) (w : World) (w0 : IsRow .i64 w a0 len0 cap0 z0) (w1 : IsRow .i64 w a1 len1 cap1 z1) :
    Calls Try.prog 3 #[.slice a0 len0 cap0, .slice a1 len1 cap1] w fun e w' => e = .returned (.bool true) ∧ Below w.heap.size w w' := by
  have r0 : RI w a0 (z0.take len0) := isRow_ri w0
  have l0 : (z0.take len0).length = len0 := isRow_len w0
  have H0 := Lib.hid l0
  clear l0
  have r1 : RI w a1 (z1.take len1) := isRow_ri w1
  have l1 : (z1.take len1).length = len1 := isRow_len w1
  have H1 := Lib.hid l1
  clear l1
  by_cases hb0 : 1048576 < len0
  · go_enter Try.func3, Try.ntmps3
    go_wp2_with fail
    go_ret
    exact ⟨rfl, Below.refl _ _⟩
  by_cases hb1 : 1048576 < len1
  · go_enter Try.func3, Try.ntmps3
    go_wp2_with fail
    go_ret
    exact ⟨rfl, Below.refl _ _⟩
  go_enter Try.func3, Try.ntmps3
  go_wp2_with fail
  refine (laws_toInt64S_c _ _ _ (z0.take len0) _ H0.out (by omega) r0).mono ?_
  rintro e w1 ⟨g1, rfl, o1, b1⟩
  have s1 : w.heap.size ≤ w1.heap.size := b1.size
  have bW1 : Below w.heap.size w w1 := b1
  go_wp2_with fail
  refine (laws_toInt64S_c _ _ _ (z1.take len1) _ H1.out (by omega) (r1.below bW1)).mono ?_
  rintro e w2 ⟨g2, rfl, o2, b2⟩
  have s2 : w1.heap.size ≤ w2.heap.size := b2.size
  have bW2 : Below w.heap.size w w2 := below_step bW1 b2 (by omega)
  go_wp2_with fail
  refine (spec_ModelChop_c _ _ _ (z0.take len0) _ _ _ (z1.take len1) _ H0.out (by omega) ((o1.below b2).ri) H1.out (by omega) (o2.ri) (Nat.le_refl _)).mono ?_
  rintro e w3 ⟨G3, n3, c3, rfl, L3, M3, o3, b3⟩
  have s3 : w2.heap.size ≤ w3.heap.size := b3.size
  have bW3 : Below w.heap.size w w3 := below_step bW2 b3 (by omega)
  go_wp2_with fail
  refine (laws_toInt64S_c _ _ _ (z0.take len0) _ H0.out (by omega) (r0.below bW3)).mono ?_
  rintro e w4 ⟨g4, rfl, o4, b4⟩
  have s4 : w3.heap.size ≤ w4.heap.size := b4.size
  have bW4 : Below w.heap.size w w4 := below_step bW3 b4 (by omega)
  go_wp2_with fail
  refine (laws_toInt64S_c _ _ _ (z1.take len1) _ H1.out (by omega) (r1.below bW4)).mono ?_
  rintro e w5 ⟨g5, rfl, o5, b5⟩
  have s5 : w4.heap.size ≤ w5.heap.size := b5.size
  have bW5 : Below w.heap.size w w5 := below_step bW4 b5 (by omega)
  go_wp2_with fail
  refine (impl_ModelChop_c _ _ _ (z0.take len0) _ _ _ (z1.take len1) _ H0.out (by omega) ((o4.below b5).ri) H1.out (by omega) (o5.ri) (Nat.le_refl _)).mono ?_
  rintro e w6 ⟨G6, n6, c6, rfl, L6, M6, o6, b6⟩
  have s6 : w5.heap.size ≤ w6.heap.size := b6.size
  have bW6 : Below w.heap.size w w6 := below_step bW5 b6 (by omega)
  go_wp2_with fail
  refine (laws_eqInt64S_c _ _ _ _ _ _ (mcV (z0.take len0) (z1.take len1)) _ L6.out L3.out (by omega) (o6.ri) ((((o3.below b4).below b5).below b6).ri)).mono ?_
  rintro e w7 ⟨rfl, b7⟩
  have s7 : w6.heap.size ≤ w7.heap.size := b7.size
  have bW7 : Below w.heap.size w w7 := below_step bW6 b7 (by omega)
  go_wp2_with fail
  refine (laws_toInt64S_c _ _ _ (z0.take len0) _ H0.out (by omega) (r0.below bW7)).mono ?_
  rintro e w8 ⟨g8, rfl, o8, b8⟩
  have s8 : w7.heap.size ≤ w8.heap.size := b8.size
  have bW8 : Below w.heap.size w w8 := below_step bW7 b8 (by omega)
  go_wp2_with fail
  refine (laws_eqInt64S_c _ _ _ _ _ _ (z0.take len0) _ H0.out H0.out (by omega) (((((o4.below b5).below b6).below b7).below b8).ri) (o8.ri)).mono ?_
  rintro e w9 ⟨rfl, b9⟩
  have s9 : w8.heap.size ≤ w9.heap.size := b9.size
  have bW9 : Below w.heap.size w w9 := below_step bW8 b9 (by omega)
  go_wp2_with fail
  refine (laws_toInt64S_c _ _ _ (z1.take len1) _ H1.out (by omega) (r1.below bW9)).mono ?_
  rintro e w10 ⟨g10, rfl, o10, b10⟩
  have s10 : w9.heap.size ≤ w10.heap.size := b10.size
  have bW10 : Below w.heap.size w w10 := below_step bW9 b10 (by omega)
  go_wp2_with fail
  refine (laws_eqInt64S_c _ _ _ _ _ _ (z1.take len1) _ H1.out H1.out (by omega) ((((((o5.below b6).below b7).below b8).below b9).below b10).ri) (o10.ri)).mono ?_
  rintro e w11 ⟨rfl, b11⟩
  have s11 : w10.heap.size ≤ w11.heap.size := b11.size
  have bW11 : Below w.heap.size w w11 := below_step bW10 b11 (by omega)
  go_wp2_with fail
  refine (laws_markInt64S_c _ _ _ (z0.take len0) _ _ _ _ H0.out (by omega) (by omega) (by omega) ((((((((o4.below b5).below b6).below b7).below b8).below b9).below b10).below b11))).mono ?_
  rintro e w12 ⟨rfl, o12, k12⟩
  have s12 : w11.heap.size ≤ w12.heap.size := k12.size
  have bW12 : Below w.heap.size w w12 := bW11.trans (k12.below (by omega) (by omega))
  go_wp2_with fail
  refine (laws_markInt64S_c _ _ _ (z1.take len1) _ _ _ _ H1.out (by omega) (by omega) (by omega) ((((((((o5.below b6).below b7).below b8).below b9).below b10).below b11).kept k12 (by omega)))).mono ?_
  rintro e w13 ⟨rfl, o13, k13⟩
  have s13 : w12.heap.size ≤ w13.heap.size := k13.size
  have bW13 : Below w.heap.size w w13 := bW12.trans (k13.below (by omega) (by omega))
  go_wp2_with fail
  refine (laws_eqInt64S_c _ _ _ _ _ _ (mcV (z0.take len0) (z1.take len1)) _ L6.out L3.out (by omega) ((((((((o6.below b7).below b8).below b9).below b10).below b11).kept k12 (by omega)).kept k13 (by omega)).ri) (((((((((((o3.below b4).below b5).below b6).below b7).below b8).below b9).below b10).below b11).kept k12 (by omega)).kept k13 (by omega)).ri)).mono ?_
  rintro e w14 ⟨rfl, b14⟩
  have s14 : w13.heap.size ≤ w14.heap.size := b14.size
  have bW14 : Below w.heap.size w w14 := below_step bW13 b14 (by omega)
  go_wp2_with fail
  refine (laws_markInt64S_c _ _ _ (mcV (z0.take len0) (z1.take len1)) _ _ _ _ L6.out (by omega) (by omega) (by omega) (((((((((o6.below b7).below b8).below b9).below b10).below b11).kept k12 (by omega)).kept k13 (by omega)).below b14))).mono ?_
  rintro e w15 ⟨rfl, o15, k15⟩
  have s15 : w14.heap.size ≤ w15.heap.size := k15.size
  have bW15 : Below w.heap.size w w15 := bW14.trans (k15.below (by omega) (by omega))
  go_wp2_with fail
  refine (laws_heldInt64S_c _ _ _ _ _ (by omega) (by omega) (by omega) (o15.ri)).mono ?_
  rintro e w' ⟨rfl, rfl⟩
  go_wp2_with fail
  refine (laws_toInt64S_c _ _ _ (z0.take len0) _ H0.out (by omega) (r0.below bW15)).mono ?_
  rintro e w16 ⟨g16, rfl, o16, b16⟩
  have s16 : w15.heap.size ≤ w16.heap.size := b16.size
  have bW16 : Below w.heap.size w w16 := below_step bW15 b16 (by omega)
  go_wp2_with fail
  refine (laws_toInt64S_c _ _ _ (z1.take len1) _ H1.out (by omega) (r1.below bW16)).mono ?_
  rintro e w17 ⟨g17, rfl, o17, b17⟩
  have s17 : w16.heap.size ≤ w17.heap.size := b17.size
  have bW17 : Below w.heap.size w w17 := below_step bW16 b17 (by omega)
  go_wp2_with fail
  refine (impl_ModelChop_c _ _ _ (z0.take len0) _ _ _ (z1.take len1) _ H0.out (by omega) ((o16.below b17).ri) H1.out (by omega) (o17.ri) (Nat.le_refl _)).mono ?_
  rintro e w18 ⟨G18, n18, c18, rfl, L18, M18, o18, b18⟩
  have s18 : w17.heap.size ≤ w18.heap.size := b18.size
  have bW18 : Below w.heap.size w w18 := below_step bW17 b18 (by omega)
  go_wp2_with fail
  refine (laws_eqInt64S_c _ _ _ _ _ _ (mcV (z0.take len0) (z1.take len1)) _ L18.out L3.out (by omega) (o18.ri) ((((((((((((((((o3.below b4).below b5).below b6).below b7).below b8).below b9).below b10).below b11).kept k12 (by omega)).kept k13 (by omega)).below b14).kept k15 (by omega)).below b16).below b17).below b18).ri)).mono ?_
  rintro e w19 ⟨rfl, b19⟩
  have s19 : w18.heap.size ≤ w19.heap.size := b19.size
  have bW19 : Below w.heap.size w w19 := below_step bW18 b19 (by omega)
  go_wp2_with fail
  refine (laws_heldInt64S_c _ _ _ _ _ (by omega) (by omega) (by omega) (((((o15.below b16).below b17).below b18).below b19).ri)).mono ?_
  rintro e w' ⟨rfl, rfl⟩
  go_wp2_with fail
  go_ret
  exact ⟨rfl, bW19⟩

set_option maxRecDepth 100000 in
theorem lifted (os : Os) (started : os.Started) (H : Type) (enc : TypeId × Value → H) :
    ReturnsInHanded {} Try.checked os 3 .any (Rows.fnExactModelChopSpec.pre6 enc Try.prog Try.f3 Rows.fnExactModelChopRow.domain false) (Rows.fnExactModelChopSpec.post enc Try.prog Try.f3 false true false false) := by
  refine returnsInHanded_of_change (C := Try.checked) own started (by kernel_rfl) Try.func3
    (ChangeSpec.witness6 (enc := enc) (C := Try.checked) false ⟨#[], #[.slice none 0 0, .slice none 0 0], []⟩ 8 (by kernel_rfl) (by kernel_rfl) (by kernel_rfl) (by kernel_rfl)) ?_
  intro W base args ds gs before hval0 hW hcnd _
  have hval : ∀ (j : Nat) t v, Try.f3.params[j]? = some t → args[j]? = some v → Value.okWide Try.prog W .any base t v := hval0
  have hW' := hW
  obtain ⟨p, q, hA0, hV, rfl, hfz, hnd⟩ := hW
  have hA : DataW.TrodAll enc Try.prog W 0 (fun _ => true) true Try.f3.params.toList args.toList ds p := hA0
  rw [Try.params3] at hA hval
  obtain ⟨v0, vs0, d0, ds0, p0, q0, hargs, rfl, rfl, h0, r0⟩ := trodAll_cons hA
  obtain ⟨v1, vs1, d1, ds1, p1, q1, rfl, rfl, rfl, h1, r1⟩ := trodAll_cons r0
  obtain ⟨rfl, rfl, rfl⟩ := trodAll_nil r1
  obtain rfl : args = #[v0, v1] := by cases args; simp_all
  obtain ⟨rfl, rfl⟩ := trodVars_none hV
  obtain ⟨a0, len0, cap0, rfl⟩ := okWide_slice Try.underlying22 (hval 0 22 v0 rfl rfl)
  have k0 := h0
  have lt0 : ∀ x ∈ p0, x.block < W.heap.size := by obtain ⟨m, hm⟩ := k0; exact DataW.trod_lt m _ _ _ hm
  obtain ⟨z0, w0⟩ : ∃ zs, IsRow .i64 W a0 len0 cap0 zs := by
    obtain ⟨fuel, hf⟩ := h0
    rcases open_ints Try.underlying22 Try.underlying2 (by kernel_rfl) hf with ⟨hcs, _⟩ | ⟨x, l, c, zs, hcs, _, hl, hm, hz, _, hcell, hwz⟩
    · simp [Value.cells] at hcs
      obtain ⟨rfl, rfl, rfl⟩ := hcs
      exact ⟨[], .inl ⟨rfl, rfl, rfl, rfl⟩⟩
    · simp [Value.cells] at hcs
      obtain ⟨rfl, rfl, rfl⟩ := hcs
      exact ⟨zs, .inr ⟨_, rfl, hl, hm, by simpa using hz, hcell, hwz⟩⟩
  obtain ⟨a1, len1, cap1, rfl⟩ := okWide_slice Try.underlying22 (hval 1 22 v1 rfl rfl)
  have k1 := h1
  have lt1 : ∀ x ∈ p1, x.block < W.heap.size := by obtain ⟨m, hm⟩ := k1; exact DataW.trod_lt m _ _ _ hm
  obtain ⟨z1, w1⟩ : ∃ zs, IsRow .i64 W a1 len1 cap1 zs := by
    obtain ⟨fuel, hf⟩ := h1
    rcases open_ints Try.underlying22 Try.underlying2 (by kernel_rfl) hf with ⟨hcs, _⟩ | ⟨x, l, c, zs, hcs, _, hl, hm, hz, _, hcell, hwz⟩
    · simp [Value.cells] at hcs
      obtain ⟨rfl, rfl, rfl⟩ := hcs
      exact ⟨[], .inl ⟨rfl, rfl, rfl, rfl⟩⟩
    · simp [Value.cells] at hcs
      obtain ⟨rfl, rfl, rfl⟩ := hcs
      exact ⟨zs, .inr ⟨_, rfl, hl, hm, by simpa using hz, hcell, hwz⟩⟩
  clear hA0 hval0
  refine (walk a0 len0 cap0 z0 a1 len1 cap1 z1 W w0 w1).mono fun e W' ⟨he, bel⟩ => ?_
  subst he
  exact ⟨_, rfl, _, _, _, [], _, [], hW', trodAll_mk1 (shut_bool Try.underlying4 _), (trodAll_cons_mk (Below.trod laidOut (by kernel_rfl) (of_decide_eq_true (by kernel_rfl)) k0 bel lt0) (trodAll_cons_mk (Below.trod laidOut (by kernel_rfl) (of_decide_eq_true (by kernel_rfl)) k1 bel lt1) trodAll_mk0)), rfl, bel.frame _, fun h => by cases h⟩

theorem over : Rows.fnExactModelChopRow.holds Try.pinned (OpenSpec.ofChange Rows.fnExactModelChopSpec) :=
  OpenClaim.holds_of_wide 3 Try.f3 rfl rfl rfl rfl rfl rfl rfl ⟨rfl, rfl, rfl, rfl, rfl⟩ rfl rfl rfl rfl rfl (by kernel_rfl) Try.func3 (by kernel_rfl)
    (of_decide_eq_true (by kernel_rfl)) (by unfold Func.isWrapper; first | (rw [if_pos (by decide +kernel)]; kernel_rfl) | (rw [if_neg (by decide +kernel)]; exact ⟨rfl, rfl⟩))
    (fun os started H enc _ => lifted os started H enc)

/-- THE STATEMENT. -/
theorem proved : Rows.FnExactModelChopSaid := over
#print axioms proved
end Go.Proofs.Ythpgkngkmmameaa.fnExactModelChop
