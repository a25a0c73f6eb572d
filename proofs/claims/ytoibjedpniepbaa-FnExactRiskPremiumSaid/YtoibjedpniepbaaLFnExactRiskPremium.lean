/-
  PROVED: 'FnExactRiskPremium' returns true for every input and leaves its arguments as they were. Conditions: none but the statement's own.
-/
import Derived.Test.YtoibjedpniepbaaFrame
import Derived.Test.YtoibjedpniepbaaRisk
import Derived.Test.YtoibjedpniepbaaEqRatio
namespace Go.Proofs.Ytoibjedpniepbaa.fnExactRiskPremium
open Go.ChangeShapes Go.WideShapes Go.ChangeAt Go.RowKit
open Go.ChangeMaps (open_string shut_string)
set_option linter.unusedVariables false

/-- THE WALK. -/
theorem walk (a0 : Option Addr) (len0 cap0 : Nat) (z0 : List Int) (a1 : Option Addr) (len1 cap1 : Nat) (z1 : List Int) (a2 : Int) (a3 : Int) (a4 : Int) (w : World) (w0 : IsRow .i64 w a0 len0 cap0 z0) (w1 : IsRow .i64 w a1 len1 cap1 z1) (w2 : (Lit.int .i64 a2).wf = true) (w3 : (Lit.int .i64 a3).wf = true) (w4 : (Lit.int .i64 a4).wf = true) :
    Calls Try.prog 10 #[.slice a0 len0 cap0, .slice a1 len1 cap1, .int .i64 a2, .int .i64 a3, .int .i64 a4] w fun e w' => e = .returned (.bool true) ∧ Below w.heap.size w w' := by
  obtain ⟨K0, K1⟩ := i64_of_wf w4
  have r0 : RI w a0 (z0.take len0) := isRow_ri w0
  have l0 : (z0.take len0).length = len0 := isRow_len w0
  have H0 := Lib.hid l0
  clear l0
  have r1 : RI w a1 (z1.take len1) := isRow_ri w1
  have l1 : (z1.take len1).length = len1 := isRow_len w1
  have H1 := Lib.hid l1
  clear l1
  by_cases hb0 : 1048576 < len0
  · go_enter Try.func10, Try.ntmps10
    go_wp2_with fail
    go_ret
    exact ⟨rfl, Below.refl _ _⟩
  by_cases hb1 : 1048576 < len1
  · go_enter Try.func10, Try.ntmps10
    go_wp2_with fail
    go_ret
    exact ⟨rfl, Below.refl _ _⟩
  go_enter Try.func10, Try.ntmps10
  go_wp2_with fail
  refine (laws_toInt64S_c _ _ _ (z0.take len0) _ H0.out (by omega) r0).mono ?_
  rintro e w1 ⟨g1, rfl, o1, b1⟩
  have s1 : w.heap.size ≤ w1.heap.size := b1.size
  have bW1 : Below w.heap.size w w1 := b1
  go_wp2_with fail
  refine (laws_toInt64S_c _ _ _ (z1.take len1) _ H1.out (by omega) (r1.below bW1)).mono ?_
  rintro e w2 ⟨g2, rfl, o2, b2⟩
  have s2 : w1.heap.size ≤ w2.heap.size := b2.size
  have bW2 : Below w.heap.size w w2 := below_step bW1 b2 (by omega)
  go_wp2_with fail
  refine (spec_RiskPremium_c _ _ _ (z0.take len0) _ _ _ (z1.take len1) a2 a3 a4 _ H0.out (by omega) ((o1.below b2).ri) H1.out (by omega) (o2.ri) (Nat.le_refl _) K1 K0).mono ?_
  rintro e w3 ⟨rfl, b3⟩
  have s3 : w2.heap.size ≤ w3.heap.size := b3.size
  have bW3 : Below w.heap.size w w3 := below_step bW2 b3 (by omega)
  have b4 : Below w3.heap.size w3 (w3.alloc (.cells #[.int .i64 (rpN (z0.take len0) (z1.take len1) a2 a3 a4), .int .i64 (rpD (z0.take len0) (z1.take len1) a2 a3 a4)] 31)) := (Below.refl _ _).alloc (Nat.le_refl _) _
  have s4 : w3.heap.size + 1 ≤ (w3.alloc (.cells #[.int .i64 (rpN (z0.take len0) (z1.take len1) a2 a3 a4), .int .i64 (rpD (z0.take len0) (z1.take len1) a2 a3 a4)] 31)).heap.size := by simp
  have bW4 : Below w.heap.size w (w3.alloc (.cells #[.int .i64 (rpN (z0.take len0) (z1.take len1) a2 a3 a4), .int .i64 (rpD (z0.take len0) (z1.take len1) a2 a3 a4)] 31)) := below_step bW3 b4 (by omega)
  go_wp2_with fail
  refine (laws_toInt64S_c _ _ _ (z0.take len0) _ H0.out (by omega) (r0.below bW4)).mono ?_
  rintro e w5 ⟨g5, rfl, o5, b5⟩
  have s5 : (w3.alloc (.cells #[.int .i64 (rpN (z0.take len0) (z1.take len1) a2 a3 a4), .int .i64 (rpD (z0.take len0) (z1.take len1) a2 a3 a4)] 31)).heap.size ≤ w5.heap.size := b5.size
  have bW5 : Below w.heap.size w w5 := below_step bW4 b5 (by omega)
  go_wp2_with fail
  refine (laws_toInt64S_c _ _ _ (z1.take len1) _ H1.out (by omega) (r1.below bW5)).mono ?_
  rintro e w6 ⟨g6, rfl, o6, b6⟩
  have s6 : w5.heap.size ≤ w6.heap.size := b6.size
  have bW6 : Below w.heap.size w w6 := below_step bW5 b6 (by omega)
  go_wp2_with fail
  refine (impl_RiskPremium_c _ _ _ (z0.take len0) _ _ _ (z1.take len1) a2 a3 a4 _ H0.out (by omega) ((o5.below b6).ri) H1.out (by omega) (o6.ri) (Nat.le_refl _) K1 K0).mono ?_
  rintro e w7 ⟨rfl, b7⟩
  have s7 : w6.heap.size ≤ w7.heap.size := b7.size
  have bW7 : Below w.heap.size w w7 := below_step bW6 b7 (by omega)
  have c0 : w7.cell? ⟨w3.heap.size, 0, none⟩ = some (.int .i64 (rpN (z0.take len0) (z1.take len1) a2 a3 a4)) := ((b7.cell (p := ⟨w3.heap.size, 0, none⟩) (by first | omega | (simp; done) | (simp at *; omega))).trans ((b6.cell (p := ⟨w3.heap.size, 0, none⟩) (by first | omega | (simp; done) | (simp at *; omega))).trans ((b5.cell (p := ⟨w3.heap.size, 0, none⟩) (by first | omega | (simp; done) | (simp at *; omega))).trans (by simp))))
  have c1 : w7.cell? ⟨w3.heap.size, 1, none⟩ = some (.int .i64 (rpD (z0.take len0) (z1.take len1) a2 a3 a4)) := ((b7.cell (p := ⟨w3.heap.size, 1, none⟩) (by first | omega | (simp; done) | (simp at *; omega))).trans ((b6.cell (p := ⟨w3.heap.size, 1, none⟩) (by first | omega | (simp; done) | (simp at *; omega))).trans ((b5.cell (p := ⟨w3.heap.size, 1, none⟩) (by first | omega | (simp; done) | (simp at *; omega))).trans (by simp))))
  have lt0 : w3.heap.size < w7.heap.size := by first | omega | (simp; done) | (simp at *; omega)
  have b8 : Below w7.heap.size w7 (w7.alloc (.cells #[.int .i64 (rpN (z0.take len0) (z1.take len1) a2 a3 a4), .int .i64 (rpD (z0.take len0) (z1.take len1) a2 a3 a4)] 31)) := (Below.refl _ _).alloc (Nat.le_refl _) _
  have s8 : w7.heap.size + 1 ≤ (w7.alloc (.cells #[.int .i64 (rpN (z0.take len0) (z1.take len1) a2 a3 a4), .int .i64 (rpD (z0.take len0) (z1.take len1) a2 a3 a4)] 31)).heap.size := by simp
  have bW8 : Below w.heap.size w (w7.alloc (.cells #[.int .i64 (rpN (z0.take len0) (z1.take len1) a2 a3 a4), .int .i64 (rpD (z0.take len0) (z1.take len1) a2 a3 a4)] 31)) := below_step bW7 b8 (by omega)
  go_wp2_with fail
  refine (laws_eqRatio_c _ _ _).mono ?_
  rintro e w9 ⟨rfl, b9⟩
  have s9 : (w7.alloc (.cells #[.int .i64 (rpN (z0.take len0) (z1.take len1) a2 a3 a4), .int .i64 (rpD (z0.take len0) (z1.take len1) a2 a3 a4)] 31)).heap.size ≤ w9.heap.size := b9.size
  have bW9 : Below w.heap.size w w9 := below_step bW8 b9 (by omega)
  go_wp2_with fail
  refine (laws_toInt64S_c _ _ _ (z0.take len0) _ H0.out (by omega) (r0.below bW9)).mono ?_
  rintro e w10 ⟨g10, rfl, o10, b10⟩
  have s10 : w9.heap.size ≤ w10.heap.size := b10.size
  have bW10 : Below w.heap.size w w10 := below_step bW9 b10 (by omega)
  go_wp2_with fail
  refine (laws_eqInt64S_c _ _ _ _ _ _ (z0.take len0) _ H0.out H0.out (by omega) ((((((o5.below b6).below b7).below b8).below b9).below b10).ri) (o10.ri)).mono ?_
  rintro e w11 ⟨rfl, b11⟩
  have s11 : w10.heap.size ≤ w11.heap.size := b11.size
  have bW11 : Below w.heap.size w w11 := below_step bW10 b11 (by omega)
  go_wp2_with fail
  refine (laws_toInt64S_c _ _ _ (z1.take len1) _ H1.out (by omega) (r1.below bW11)).mono ?_
  rintro e w12 ⟨g12, rfl, o12, b12⟩
  have s12 : w11.heap.size ≤ w12.heap.size := b12.size
  have bW12 : Below w.heap.size w w12 := below_step bW11 b12 (by omega)
  go_wp2_with fail
  refine (laws_eqInt64S_c _ _ _ _ _ _ (z1.take len1) _ H1.out H1.out (by omega) (((((((o6.below b7).below b8).below b9).below b10).below b11).below b12).ri) (o12.ri)).mono ?_
  rintro e w13 ⟨rfl, b13⟩
  have s13 : w12.heap.size ≤ w13.heap.size := b13.size
  have bW13 : Below w.heap.size w w13 := below_step bW12 b13 (by omega)
  go_wp2_with fail
  go_ret
  exact ⟨rfl, bW13⟩

set_option maxRecDepth 100000 in
theorem lifted (os : Os) (started : os.Started) (H : Type) (enc : TypeId × Value → H) :
    ReturnsInHanded {} Try.checked os 10 .any (Rows.fnExactRiskPremiumSpec.pre6 enc Try.prog Try.f10 Rows.fnExactRiskPremiumRow.domain false) (Rows.fnExactRiskPremiumSpec.post enc Try.prog Try.f10 false true false false) := by
  refine returnsInHanded_of_change (C := Try.checked) own started (by kernel_rfl) Try.func10
    (ChangeSpec.witness6 (enc := enc) (C := Try.checked) false ⟨#[], #[.slice none 0 0, .slice none 0 0, .int .i64 0, .int .i64 0, .int .i64 0], []⟩ 8 (by kernel_rfl) (by kernel_rfl) (by kernel_rfl) (by kernel_rfl)) ?_
  intro W base args ds gs before hval0 hW hcnd _
  have hval : ∀ (j : Nat) t v, Try.f10.params[j]? = some t → args[j]? = some v → Value.okWide Try.prog W .any base t v := hval0
  have hW' := hW
  obtain ⟨p, q, hA0, hV, rfl, hfz, hnd⟩ := hW
  have hA : DataW.TrodAll enc Try.prog W 0 (fun _ => true) true Try.f10.params.toList args.toList ds p := hA0
  rw [Try.params10] at hA hval
  obtain ⟨v0, vs0, d0, ds0, p0, q0, hargs, rfl, rfl, h0, r0⟩ := trodAll_cons hA
  obtain ⟨v1, vs1, d1, ds1, p1, q1, rfl, rfl, rfl, h1, r1⟩ := trodAll_cons r0
  obtain ⟨v2, vs2, d2, ds2, p2, q2, rfl, rfl, rfl, h2, r2⟩ := trodAll_cons r1
  obtain ⟨v3, vs3, d3, ds3, p3, q3, rfl, rfl, rfl, h3, r3⟩ := trodAll_cons r2
  obtain ⟨v4, vs4, d4, ds4, p4, q4, rfl, rfl, rfl, h4, r4⟩ := trodAll_cons r3
  obtain ⟨rfl, rfl, rfl⟩ := trodAll_nil r4
  obtain rfl : args = #[v0, v1, v2, v3, v4] := by cases args; simp_all
  obtain ⟨rfl, rfl⟩ := trodVars_none hV
  obtain ⟨a0, len0, cap0, rfl⟩ := okWide_slice Try.underlying22 (hval 0 22 v0 rfl rfl)
  have k0 := h0
  have lt0 : ∀ x ∈ p0, x.block < W.heap.size := by obtain ⟨m, hm⟩ := k0; exact DataW.trod_lt m _ _ _ hm
  obtain ⟨z0, w0⟩ : ∃ zs, IsRow .i64 W a0 len0 cap0 zs := by
    obtain ⟨fuel, hf⟩ := h0
    rcases open_ints Try.underlying22 Try.underlying2 (by kernel_rfl) hf with ⟨hcs, _⟩ | ⟨x, l, c, zs, hcs, _, hl, hm, hz, _, hcell, hwz⟩
    · simp [Value.cells] at hcs
      obtain ⟨rfl, rfl, rfl⟩ := hcs
      exact ⟨[], .inl ⟨rfl, rfl, rfl, rfl⟩⟩
    · simp [Value.cells] at hcs
      obtain ⟨rfl, rfl, rfl⟩ := hcs
      exact ⟨zs, .inr ⟨_, rfl, hl, hm, by simpa using hz, hcell, hwz⟩⟩
  obtain ⟨a1, len1, cap1, rfl⟩ := okWide_slice Try.underlying22 (hval 1 22 v1 rfl rfl)
  have k1 := h1
  have lt1 : ∀ x ∈ p1, x.block < W.heap.size := by obtain ⟨m, hm⟩ := k1; exact DataW.trod_lt m _ _ _ hm
  obtain ⟨z1, w1⟩ : ∃ zs, IsRow .i64 W a1 len1 cap1 zs := by
    obtain ⟨fuel, hf⟩ := h1
    rcases open_ints Try.underlying22 Try.underlying2 (by kernel_rfl) hf with ⟨hcs, _⟩ | ⟨x, l, c, zs, hcs, _, hl, hm, hz, _, hcell, hwz⟩
    · simp [Value.cells] at hcs
      obtain ⟨rfl, rfl, rfl⟩ := hcs
      exact ⟨[], .inl ⟨rfl, rfl, rfl, rfl⟩⟩
    · simp [Value.cells] at hcs
      obtain ⟨rfl, rfl, rfl⟩ := hcs
      exact ⟨zs, .inr ⟨_, rfl, hl, hm, by simpa using hz, hcell, hwz⟩⟩
  obtain ⟨a2, rfl, rfl, rfl, w2⟩ := open_int Try.underlying2 (hval 2 2 v2 rfl rfl) h2
  obtain ⟨a3, rfl, rfl, rfl, w3⟩ := open_int Try.underlying2 (hval 3 2 v3 rfl rfl) h3
  obtain ⟨a4, rfl, rfl, rfl, w4⟩ := open_int Try.underlying2 (hval 4 2 v4 rfl rfl) h4
  clear hA0 hval0
  refine (walk a0 len0 cap0 z0 a1 len1 cap1 z1 a2 a3 a4 W w0 w1 w2 w3 w4).mono fun e W' ⟨he, bel⟩ => ?_
  subst he
  exact ⟨_, rfl, _, _, _, [], _, [], hW', trodAll_mk1 (shut_bool Try.underlying4 _), (trodAll_cons_mk (Below.trod laidOut (by kernel_rfl) (of_decide_eq_true (by kernel_rfl)) k0 bel lt0) (trodAll_cons_mk (Below.trod laidOut (by kernel_rfl) (of_decide_eq_true (by kernel_rfl)) k1 bel lt1) (trodAll_cons_mk (shut_int Try.underlying2 w2) (trodAll_cons_mk (shut_int Try.underlying2 w3) (trodAll_cons_mk (shut_int Try.underlying2 w4) trodAll_mk0))))), rfl, bel.frame _, fun h => by cases h⟩

theorem over : Rows.fnExactRiskPremiumRow.holds Try.pinned (OpenSpec.ofChange Rows.fnExactRiskPremiumSpec) :=
  OpenClaim.holds_of_wide 10 Try.f10 rfl rfl rfl rfl rfl rfl rfl ⟨rfl, rfl, rfl, rfl, rfl⟩ rfl rfl rfl rfl rfl (by kernel_rfl) Try.func10 (by kernel_rfl)
    (of_decide_eq_true (by kernel_rfl)) (by unfold Func.isWrapper; first | (rw [if_pos (by decide +kernel)]; kernel_rfl) | (rw [if_neg (by decide +kernel)]; exact ⟨rfl, rfl⟩))
    (fun os started H enc _ => lifted os started H enc)

/-- THE STATEMENT. -/
theorem proved : Rows.FnExactRiskPremiumSaid := over
#print axioms proved
end Go.Proofs.Ytoibjedpniepbaa.fnExactRiskPremium
