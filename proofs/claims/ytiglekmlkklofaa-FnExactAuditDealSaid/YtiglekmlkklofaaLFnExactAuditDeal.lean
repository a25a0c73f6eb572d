/-
  PROVED: 'FnExactAuditDeal' returns true for every input and leaves its arguments as they were. Conditions: none but the statement's own.
-/
import Derived.Test.YtiglekmlkklofaaFrame
import Derived.Test.YtiglekmlkklofaaCryptAudit
namespace Go.Proofs.Ytiglekmlkklofaa.fnExactAuditDeal
open Go.ChangeShapes Go.WideShapes Go.ChangeAt Go.RowKit
open Go.ChangeMaps (open_string shut_string)
set_option linter.unusedVariables false

/-- THE WALK. -/
theorem walk (a0 : Int) (a1 : Option Addr) (len1 cap1 : Nat) (z1 : List Int) (a2 : Int) (a3 : Option Addr) (len3 cap3 : Nat) (z3 : List Int) (a4 : Option Addr) (len4 cap4 : Nat) (z4 : List Int) (w : World) (w0 : (Lit.int .i64 a0).wf = true) (w1 : IsRow .i64 w a1 len1 cap1 z1) (w2 : (Lit.int .i64 a2).wf = true) (w3 : IsRow .i64 w a3 len3 cap3 z3) (w4 : IsRow .i64 w a4 len4 cap4 z4) :
    Calls Try.prog 12 #[.int .i64 a0, .slice a1 len1 cap1, .int .i64 a2, .slice a3 len3 cap3, .slice a4 len4 cap4] w fun e w' => e = .returned (.bool true) ∧ Below w.heap.size w w' := by
  have r1 : RI w a1 (z1.take len1) := isRow_ri w1
  have l1 : (z1.take len1).length = len1 := isRow_len w1
  have H1 := Lib.hid l1
  clear l1
  have r3 : RI w a3 (z3.take len3) := isRow_ri w3
  have l3 : (z3.take len3).length = len3 := isRow_len w3
  have H3 := Lib.hid l3
  clear l3
  have r4 : RI w a4 (z4.take len4) := isRow_ri w4
  have l4 : (z4.take len4).length = len4 := isRow_len w4
  have H4 := Lib.hid l4
  clear l4
  by_cases hb1 : 1048576 < len1
  · go_enter Try.func12, Try.ntmps12
    go_wp2_with fail
    go_ret
    exact ⟨rfl, Below.refl _ _⟩
  by_cases hb3 : 1048576 < len3
  · go_enter Try.func12, Try.ntmps12
    go_wp2_with fail
    go_ret
    exact ⟨rfl, Below.refl _ _⟩
  by_cases hb4 : 1048576 < len4
  · go_enter Try.func12, Try.ntmps12
    go_wp2_with fail
    go_ret
    exact ⟨rfl, Below.refl _ _⟩
  go_enter Try.func12, Try.ntmps12
  go_wp2_with fail
  refine (laws_toInt64S_c _ _ _ (z1.take len1) _ H1.out (by omega) r1).mono ?_
  rintro e w1 ⟨g1, rfl, o1, b1⟩
  have s1 : w.heap.size ≤ w1.heap.size := b1.size
  have bW1 : Below w.heap.size w w1 := b1
  go_wp2_with fail
  refine (laws_toInt64S_c _ _ _ (z3.take len3) _ H3.out (by omega) (r3.below bW1)).mono ?_
  rintro e w2 ⟨g2, rfl, o2, b2⟩
  have s2 : w1.heap.size ≤ w2.heap.size := b2.size
  have bW2 : Below w.heap.size w w2 := below_step bW1 b2 (by omega)
  go_wp2_with fail
  refine (laws_toInt64S_c _ _ _ (z4.take len4) _ H4.out (by omega) (r4.below bW2)).mono ?_
  rintro e w3 ⟨g3, rfl, o3, b3⟩
  have s3 : w2.heap.size ≤ w3.heap.size := b3.size
  have bW3 : Below w.heap.size w w3 := below_step bW2 b3 (by omega)
  go_wp2_with fail
  refine (spec_AuditDeal_c a0 _ _ _ (z1.take len1) a2 _ _ _ (z3.take len3) _ _ _ (z4.take len4) _ H1.out (by omega) (((o1.below b2).below b3).ri) H3.out (by omega) ((o2.below b3).ri) H4.out (by omega) (o3.ri)).mono ?_
  rintro e w4 ⟨rfl, b4⟩
  have s4 : w3.heap.size ≤ w4.heap.size := b4.size
  have bW4 : Below w.heap.size w w4 := below_step bW3 b4 (by omega)
  go_wp2_with fail
  refine (laws_toInt64S_c _ _ _ (z1.take len1) _ H1.out (by omega) (r1.below bW4)).mono ?_
  rintro e w5 ⟨g5, rfl, o5, b5⟩
  have s5 : w4.heap.size ≤ w5.heap.size := b5.size
  have bW5 : Below w.heap.size w w5 := below_step bW4 b5 (by omega)
  go_wp2_with fail
  refine (laws_toInt64S_c _ _ _ (z3.take len3) _ H3.out (by omega) (r3.below bW5)).mono ?_
  rintro e w6 ⟨g6, rfl, o6, b6⟩
  have s6 : w5.heap.size ≤ w6.heap.size := b6.size
  have bW6 : Below w.heap.size w w6 := below_step bW5 b6 (by omega)
  go_wp2_with fail
  refine (laws_toInt64S_c _ _ _ (z4.take len4) _ H4.out (by omega) (r4.below bW6)).mono ?_
  rintro e w7 ⟨g7, rfl, o7, b7⟩
  have s7 : w6.heap.size ≤ w7.heap.size := b7.size
  have bW7 : Below w.heap.size w w7 := below_step bW6 b7 (by omega)
  go_wp2_with fail
  refine (impl_AuditDeal_c a0 _ _ _ (z1.take len1) a2 _ _ _ (z3.take len3) _ _ _ (z4.take len4) _ H1.out (by omega) (((o5.below b6).below b7).ri) H3.out (by omega) ((o6.below b7).ri) H4.out (by omega) (o7.ri)).mono ?_
  rintro e w8 ⟨rfl, b8⟩
  have s8 : w7.heap.size ≤ w8.heap.size := b8.size
  have bW8 : Below w.heap.size w w8 := below_step bW7 b8 (by omega)
  go_wp2_with fail
  refine (laws_toInt64S_c _ _ _ (z1.take len1) _ H1.out (by omega) (r1.below bW8)).mono ?_
  rintro e w9 ⟨g9, rfl, o9, b9⟩
  have s9 : w8.heap.size ≤ w9.heap.size := b9.size
  have bW9 : Below w.heap.size w w9 := below_step bW8 b9 (by omega)
  go_wp2_with fail
  refine (laws_eqInt64S_c _ _ _ _ _ _ (z1.take len1) _ H1.out H1.out (by omega) (((((o5.below b6).below b7).below b8).below b9).ri) (o9.ri)).mono ?_
  rintro e w10 ⟨rfl, b10⟩
  have s10 : w9.heap.size ≤ w10.heap.size := b10.size
  have bW10 : Below w.heap.size w w10 := below_step bW9 b10 (by omega)
  go_wp2_with fail
  refine (laws_toInt64S_c _ _ _ (z3.take len3) _ H3.out (by omega) (r3.below bW10)).mono ?_
  rintro e w11 ⟨g11, rfl, o11, b11⟩
  have s11 : w10.heap.size ≤ w11.heap.size := b11.size
  have bW11 : Below w.heap.size w w11 := below_step bW10 b11 (by omega)
  go_wp2_with fail
  refine (laws_eqInt64S_c _ _ _ _ _ _ (z3.take len3) _ H3.out H3.out (by omega) ((((((o6.below b7).below b8).below b9).below b10).below b11).ri) (o11.ri)).mono ?_
  rintro e w12 ⟨rfl, b12⟩
  have s12 : w11.heap.size ≤ w12.heap.size := b12.size
  have bW12 : Below w.heap.size w w12 := below_step bW11 b12 (by omega)
  go_wp2_with fail
  refine (laws_toInt64S_c _ _ _ (z4.take len4) _ H4.out (by omega) (r4.below bW12)).mono ?_
  rintro e w13 ⟨g13, rfl, o13, b13⟩
  have s13 : w12.heap.size ≤ w13.heap.size := b13.size
  have bW13 : Below w.heap.size w w13 := below_step bW12 b13 (by omega)
  go_wp2_with fail
  refine (laws_eqInt64S_c _ _ _ _ _ _ (z4.take len4) _ H4.out H4.out (by omega) (((((((o7.below b8).below b9).below b10).below b11).below b12).below b13).ri) (o13.ri)).mono ?_
  rintro e w14 ⟨rfl, b14⟩
  have s14 : w13.heap.size ≤ w14.heap.size := b14.size
  have bW14 : Below w.heap.size w w14 := below_step bW13 b14 (by omega)
  go_wp2_with fail
  go_ret
  exact ⟨rfl, bW14⟩

set_option maxRecDepth 100000 in
theorem lifted (os : Os) (started : os.Started) (H : Type) (enc : TypeId × Value → H) :
    ReturnsInHanded {} Try.checked os 12 .any (Rows.fnExactAuditDealSpec.pre6 enc Try.prog Try.f12 Rows.fnExactAuditDealRow.domain false) (Rows.fnExactAuditDealSpec.post enc Try.prog Try.f12 false true false false) := by
  refine returnsInHanded_of_change (C := Try.checked) own started (by kernel_rfl) Try.func12
    (ChangeSpec.witness6 (enc := enc) (C := Try.checked) false ⟨#[], #[.int .i64 0, .slice none 0 0, .int .i64 0, .slice none 0 0, .slice none 0 0], []⟩ 8 (by kernel_rfl) (by kernel_rfl) (by kernel_rfl) (by kernel_rfl)) ?_
  intro W base args ds gs before hval0 hW hcnd _
  have hval : ∀ (j : Nat) t v, Try.f12.params[j]? = some t → args[j]? = some v → Value.okWide Try.prog W .any base t v := hval0
  have hW' := hW
  obtain ⟨p, q, hA0, hV, rfl, hfz, hnd⟩ := hW
  have hA : DataW.TrodAll enc Try.prog W 0 (fun _ => true) true Try.f12.params.toList args.toList ds p := hA0
  rw [Try.params12] at hA hval
  obtain ⟨v0, vs0, d0, ds0, p0, q0, hargs, rfl, rfl, h0, r0⟩ := trodAll_cons hA
  obtain ⟨v1, vs1, d1, ds1, p1, q1, rfl, rfl, rfl, h1, r1⟩ := trodAll_cons r0
  obtain ⟨v2, vs2, d2, ds2, p2, q2, rfl, rfl, rfl, h2, r2⟩ := trodAll_cons r1
  obtain ⟨v3, vs3, d3, ds3, p3, q3, rfl, rfl, rfl, h3, r3⟩ := trodAll_cons r2
  obtain ⟨v4, vs4, d4, ds4, p4, q4, rfl, rfl, rfl, h4, r4⟩ := trodAll_cons r3
  obtain ⟨rfl, rfl, rfl⟩ := trodAll_nil r4
  obtain rfl : args = #[v0, v1, v2, v3, v4] := by cases args; simp_all
  obtain ⟨rfl, rfl⟩ := trodVars_none hV
  obtain ⟨a0, rfl, rfl, rfl, w0⟩ := open_int Try.underlying2 (hval 0 2 v0 rfl rfl) h0
  obtain ⟨a1, len1, cap1, rfl⟩ := okWide_slice Try.underlying29 (hval 1 29 v1 rfl rfl)
  have k1 := h1
  have lt1 : ∀ x ∈ p1, x.block < W.heap.size := by obtain ⟨m, hm⟩ := k1; exact DataW.trod_lt m _ _ _ hm
  obtain ⟨z1, w1⟩ : ∃ zs, IsRow .i64 W a1 len1 cap1 zs := by
    obtain ⟨fuel, hf⟩ := h1
    rcases open_ints Try.underlying29 Try.underlying2 (by kernel_rfl) hf with ⟨hcs, _⟩ | ⟨x, l, c, zs, hcs, _, hl, hm, hz, _, hcell, hwz⟩
    · simp [Value.cells] at hcs
      obtain ⟨rfl, rfl, rfl⟩ := hcs
      exact ⟨[], .inl ⟨rfl, rfl, rfl, rfl⟩⟩
    · simp [Value.cells] at hcs
      obtain ⟨rfl, rfl, rfl⟩ := hcs
      exact ⟨zs, .inr ⟨_, rfl, hl, hm, by simpa using hz, hcell, hwz⟩⟩
  obtain ⟨a2, rfl, rfl, rfl, w2⟩ := open_int Try.underlying2 (hval 2 2 v2 rfl rfl) h2
  obtain ⟨a3, len3, cap3, rfl⟩ := okWide_slice Try.underlying29 (hval 3 29 v3 rfl rfl)
  have k3 := h3
  have lt3 : ∀ x ∈ p3, x.block < W.heap.size := by obtain ⟨m, hm⟩ := k3; exact DataW.trod_lt m _ _ _ hm
  obtain ⟨z3, w3⟩ : ∃ zs, IsRow .i64 W a3 len3 cap3 zs := by
    obtain ⟨fuel, hf⟩ := h3
    rcases open_ints Try.underlying29 Try.underlying2 (by kernel_rfl) hf with ⟨hcs, _⟩ | ⟨x, l, c, zs, hcs, _, hl, hm, hz, _, hcell, hwz⟩
    · simp [Value.cells] at hcs
      obtain ⟨rfl, rfl, rfl⟩ := hcs
      exact ⟨[], .inl ⟨rfl, rfl, rfl, rfl⟩⟩
    · simp [Value.cells] at hcs
      obtain ⟨rfl, rfl, rfl⟩ := hcs
      exact ⟨zs, .inr ⟨_, rfl, hl, hm, by simpa using hz, hcell, hwz⟩⟩
  obtain ⟨a4, len4, cap4, rfl⟩ := okWide_slice Try.underlying29 (hval 4 29 v4 rfl rfl)
  have k4 := h4
  have lt4 : ∀ x ∈ p4, x.block < W.heap.size := by obtain ⟨m, hm⟩ := k4; exact DataW.trod_lt m _ _ _ hm
  obtain ⟨z4, w4⟩ : ∃ zs, IsRow .i64 W a4 len4 cap4 zs := by
    obtain ⟨fuel, hf⟩ := h4
    rcases open_ints Try.underlying29 Try.underlying2 (by kernel_rfl) hf with ⟨hcs, _⟩ | ⟨x, l, c, zs, hcs, _, hl, hm, hz, _, hcell, hwz⟩
    · simp [Value.cells] at hcs
      obtain ⟨rfl, rfl, rfl⟩ := hcs
      exact ⟨[], .inl ⟨rfl, rfl, rfl, rfl⟩⟩
    · simp [Value.cells] at hcs
      obtain ⟨rfl, rfl, rfl⟩ := hcs
      exact ⟨zs, .inr ⟨_, rfl, hl, hm, by simpa using hz, hcell, hwz⟩⟩
  clear hA0 hval0
  refine (walk a0 a1 len1 cap1 z1 a2 a3 len3 cap3 z3 a4 len4 cap4 z4 W w0 w1 w2 w3 w4).mono fun e W' ⟨he, bel⟩ => ?_
  subst he
  exact ⟨_, rfl, _, _, _, [], _, [], hW', trodAll_mk1 (shut_bool Try.underlying4 _), (trodAll_cons_mk (shut_int Try.underlying2 w0) (trodAll_cons_mk (Below.trod laidOut (by kernel_rfl) (of_decide_eq_true (by kernel_rfl)) k1 bel lt1) (trodAll_cons_mk (shut_int Try.underlying2 w2) (trodAll_cons_mk (Below.trod laidOut (by kernel_rfl) (of_decide_eq_true (by kernel_rfl)) k3 bel lt3) (trodAll_cons_mk (Below.trod laidOut (by kernel_rfl) (of_decide_eq_true (by kernel_rfl)) k4 bel lt4) trodAll_mk0))))), rfl, bel.frame _, fun h => by cases h⟩

theorem over : Rows.fnExactAuditDealRow.holds Try.pinned (OpenSpec.ofChange Rows.fnExactAuditDealSpec) :=
  OpenClaim.holds_of_wide 12 Try.f12 rfl rfl rfl rfl rfl rfl rfl ⟨rfl, rfl, rfl, rfl, rfl⟩ rfl rfl rfl rfl rfl (by kernel_rfl) Try.func12 (by kernel_rfl)
    (of_decide_eq_true (by kernel_rfl)) (by unfold Func.isWrapper; first | (rw [if_pos (by decide +kernel)]; kernel_rfl) | (rw [if_neg (by decide +kernel)]; exact ⟨rfl, rfl⟩))
    (fun os started H enc _ => lifted os started H enc)

/-- THE STATEMENT. -/
theorem proved : Rows.FnExactAuditDealSaid := over
#print axioms proved
end Go.Proofs.Ytiglekmlkklofaa.fnExactAuditDeal
