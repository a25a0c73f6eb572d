/-
  PROVED: 'FnExactAreFinishes' returns true for every input and leaves its arguments as they were. Conditions: none but the statement's own.
-/
import Derived.Test.YtdjmpagnojghoaaFrame
import Derived.Test.YtdjmpagnojghoaaFin
import Derived.Test.YtdjmpagnojghoaaLawEv
import Derived.Test.YtdjmpagnojghoaaFrameEv
namespace Go.Proofs.Ytdjmpagnojghoaa.fnExactAreFinishes
open Go.ChangeShapes Go.WideShapes Go.ChangeAt Go.RowKit
open Go.ChangeMaps (open_string shut_string)
set_option linter.unusedVariables false

set_option maxHeartbeats 6000000 in
/-- THE WALK. -/
theorem walk (a00 a01 a02 a03 : Int) (a0 : Option Addr) (len0 cap0 : Nat) (z0 : List Int) (a1 : Option Addr) (len1 cap1 : Nat) (z1 : List Int) (w : World) (w0 : IsRow .i64 w a0 len0 cap0 z0) (w1 : IsRow .i64 w a1 len1 cap1 z1) :
    Calls Try.prog 7 #[.agg #[.int .i64 a00, .int .i64 a01, .int .i64 a02, .int .i64 a03, .slice a0 len0 cap0], .slice a1 len1 cap1] w fun e w' => e = .returned (.bool true) ∧ Below w.heap.size w w' := by
  have r0 : RI w a0 (z0.take len0) := isRow_ri w0
  have H0 := Lib.hid (show (z0.take len0).length = len0 from isRow_len w0)
  have m0 : len0 ≤ 9223372036854775807 := isRow_max w0
  have r1 : RI w a1 (z1.take len1) := isRow_ri w1
  have H1 := Lib.hid (show (z1.take len1).length = len1 from isRow_len w1)
  by_cases hb1 : 1048576 < len1
  · go_enter Try.func7, Try.ntmps7
    go_wp2_with fail
    go_ret
    exact ⟨rfl, below_box _ _⟩
  by_cases hb0 : 1048576 < len0
  · go_enter Try.func7, Try.ntmps7
    go_wp2_with fail
    refine (laws_szEvent_c a00 a01 a02 a03 _ _ _ _ _ (by omega) (by omega) m0).mono ?_
    rintro e w1 ⟨rfl, b1⟩
    rw [if_pos (by omega)]
    go_wp2_with fail
    go_ret
    exact ⟨rfl, (below_box _ _).trans (b1.mono (by simp))⟩
  have r0_0 := Lib.hid r0
  have r1_0 := Lib.hid r1
  have BW_0 := Lib.hid (Below.refl w.heap.size w)
  go_enter Try.func7, Try.ntmps7
  have r0_1 := Lib.hid (r0_0.out.below (below_box w (.cells #[.int .i64 a00, .int .i64 a01, .int .i64 a02, .int .i64 a03, .slice a0 len0 cap0] 24)))
  have r1_1 := Lib.hid (r1_0.out.below (below_box w (.cells #[.int .i64 a00, .int .i64 a01, .int .i64 a02, .int .i64 a03, .slice a0 len0 cap0] 24)))
  have BW_1 := Lib.hid (below_step BW_0.out (below_box w (.cells #[.int .i64 a00, .int .i64 a01, .int .i64 a02, .int .i64 a03, .slice a0 len0 cap0] 24)) BW_0.out.size)
  have E_1 := Lib.hid (E5.new 24 w a00 a01 a02 a03 a0 len0 cap0)
  go_wp2_with fail
  refine (laws_szEvent_c a00 a01 a02 a03 _ _ _ _ _ (by omega) (by omega) m0).mono ?_
  rintro e w2 ⟨rfl, b2⟩
  rw [if_neg (by omega)]
  have hge : ¬ ((1048576 : Int) - (len0 : Int)) < 0 := by omega
  have BW_2 := Lib.hid (below_step BW_1.out b2 BW_1.out.size)
  have r0_2 := Lib.hid (r0_1.out.below b2)
  have r1_2 := Lib.hid (r1_1.out.below b2)
  have E_2 := Lib.hid (E_1.out.below b2)
  obtain ⟨Ec0, Ec1, Ec2, Ec3, Ec4⟩ := E_2.out.cells
  go_wp2_with fail
  refine (laws_toEvent_c a00 a01 a02 a03 _ _ _ (z0.take len0) _ H0.out (by omega) r0_2.out).mono ?_
  rintro e w3 ⟨g3, rfl, o3, b3⟩
  clear Ec0 Ec1 Ec2 Ec3 Ec4
  have BW_3 := Lib.hid (below_step BW_2.out b3 BW_2.out.size)
  have r0_3 := Lib.hid (r0_2.out.below b3)
  have r1_3 := Lib.hid (r1_2.out.below b3)
  have E_3 := Lib.hid (E_2.out.below b3)
  have O3_3 := Lib.hid o3
  go_wp2_with fail
  refine (laws_toInt64S_c _ _ _ (z1.take len1) _ H1.out (by omega) r1_3.out).mono ?_
  rintro e w4 ⟨g4, rfl, o4, b4⟩
  have BW_4 := Lib.hid (below_step BW_3.out b4 BW_3.out.size)
  have r0_4 := Lib.hid (r0_3.out.below b4)
  have r1_4 := Lib.hid (r1_3.out.below b4)
  have E_4 := Lib.hid (E_3.out.below b4)
  have O3_4 := Lib.hid (O3_3.out.below b4)
  have O4_4 := Lib.hid o4
  go_wp2_with fail
  refine (spec_AreFinishes_c a00 a01 a02 a03 _ _ _ (z0.take len0) _ _ _ (z1.take len1) _ H0.out (by omega) O3_4.out.ri H1.out (by omega) O4_4.out.ri).mono ?_
  rintro e w5 ⟨rfl, b5⟩
  have BW_5 := Lib.hid (below_step BW_4.out b5 BW_4.out.size)
  have r0_5 := Lib.hid (r0_4.out.below b5)
  have r1_5 := Lib.hid (r1_4.out.below b5)
  have E_5 := Lib.hid (E_4.out.below b5)
  have O3_5 := Lib.hid (O3_4.out.below b5)
  have O4_5 := Lib.hid (O4_4.out.below b5)
  obtain ⟨Ec0, Ec1, Ec2, Ec3, Ec4⟩ := E_5.out.cells
  go_wp2_with fail
  refine (laws_toEvent_c a00 a01 a02 a03 _ _ _ (z0.take len0) _ H0.out (by omega) r0_5.out).mono ?_
  rintro e w6 ⟨g6, rfl, o6, b6⟩
  clear Ec0 Ec1 Ec2 Ec3 Ec4
  have BW_6 := Lib.hid (below_step BW_5.out b6 BW_5.out.size)
  have r0_6 := Lib.hid (r0_5.out.below b6)
  have r1_6 := Lib.hid (r1_5.out.below b6)
  have E_6 := Lib.hid (E_5.out.below b6)
  have O6_6 := Lib.hid o6
  have r0_7 := Lib.hid (r0_6.out.below (below_box w6 (.cells #[.int .i64 a00, .int .i64 a01, .int .i64 a02, .int .i64 a03, .slice (some ⟨g6, 0, none⟩) len0 len0] 27)))
  have r1_7 := Lib.hid (r1_6.out.below (below_box w6 (.cells #[.int .i64 a00, .int .i64 a01, .int .i64 a02, .int .i64 a03, .slice (some ⟨g6, 0, none⟩) len0 len0] 27)))
  have E_7 := Lib.hid (E_6.out.below (below_box w6 (.cells #[.int .i64 a00, .int .i64 a01, .int .i64 a02, .int .i64 a03, .slice (some ⟨g6, 0, none⟩) len0 len0] 27)))
  have O6_7 := Lib.hid (O6_6.out.below (below_box w6 (.cells #[.int .i64 a00, .int .i64 a01, .int .i64 a02, .int .i64 a03, .slice (some ⟨g6, 0, none⟩) len0 len0] 27)))
  have BW_7 := Lib.hid (below_step BW_6.out (below_box w6 (.cells #[.int .i64 a00, .int .i64 a01, .int .i64 a02, .int .i64 a03, .slice (some ⟨g6, 0, none⟩) len0 len0] 27)) BW_6.out.size)
  have X_7 := Lib.hid (E5.new 27 w6 a00 a01 a02 a03 (some ⟨g6, 0, none⟩) len0 len0)
  go_wp2_with fail
  refine (laws_toInt64S_c _ _ _ (z1.take len1) _ H1.out (by omega) r1_7.out).mono ?_
  rintro e w8 ⟨g8, rfl, o8, b8⟩
  have BW_8 := Lib.hid (below_step BW_7.out b8 BW_7.out.size)
  have r0_8 := Lib.hid (r0_7.out.below b8)
  have r1_8 := Lib.hid (r1_7.out.below b8)
  have E_8 := Lib.hid (E_7.out.below b8)
  have O6_8 := Lib.hid (O6_7.out.below b8)
  have X_8 := Lib.hid (X_7.out.below b8)
  have O8_8 := Lib.hid o8
  obtain ⟨Xc0, Xc1, Xc2, Xc3, Xc4⟩ := X_8.out.cells
  go_wp2_with fail
  refine (impl_AreFinishes_c a00 a01 a02 a03 _ _ _ (z0.take len0) _ _ _ (z1.take len1) _ H0.out (by omega) O6_8.out.ri H1.out (by omega) O8_8.out.ri).mono ?_
  rintro e w9 ⟨rfl, b9⟩
  clear Xc0 Xc1 Xc2 Xc3 Xc4
  have BW_9 := Lib.hid (below_step BW_8.out b9 BW_8.out.size)
  have r0_9 := Lib.hid (r0_8.out.below b9)
  have r1_9 := Lib.hid (r1_8.out.below b9)
  have E_9 := Lib.hid (E_8.out.below b9)
  have O6_9 := Lib.hid (O6_8.out.below b9)
  have X_9 := Lib.hid (X_8.out.below b9)
  have O8_9 := Lib.hid (O8_8.out.below b9)
  obtain ⟨Ec0, Ec1, Ec2, Ec3, Ec4⟩ := E_9.out.cells
  obtain ⟨Xc0, Xc1, Xc2, Xc3, Xc4⟩ := X_9.out.cells
  go_wp2_with fail
  have hsz9 : w.heap.size ≤ w9.heap.size := BW_9.out.size
  go_region_with ((first
    | (go_at_call 15; refine (laws_toEvent_c a00 a01 a02 a03 _ _ _ (z0.take len0) _ H0.out (by omega) (by exact r0_9.out)).mono ?_; rintro e w10 ⟨g10, rfl, o10, b10⟩; have XX : E5 27 w10 w6.heap.size a00 a01 a02 a03 (some ⟨g6, 0, none⟩) len0 len0 := E5.below (by exact X_9.out) b10; obtain ⟨Xc0, Xc1, Xc2, Xc3, Xc4⟩ := XX.cells; have OO10 := Lib.hid o10; have BB10 := Lib.hid b10; clear XX o10 b10)
    | (go_at_call 17; refine (laws_eqEvent_c a00 a01 a02 a03 _ _ _ _ _ _ (z0.take len0) _ H0.out H0.out (by omega) (OI.ri (OI.below (by exact O6_9.out) BB10.out)) (OI.ri OO10.out)).mono ?_; rintro e w11 ⟨rfl, b11⟩)))
  all_goals
    have r0_10 := Lib.hid (RI.below (w := w9.drew) (by exact r0_9.out) BB10.out)
    have r0_11 := Lib.hid (r0_10.out.below b11)
    have r1_10 := Lib.hid (RI.below (w := w9.drew) (by exact r1_9.out) BB10.out)
    have r1_11 := Lib.hid (r1_10.out.below b11)
    have E_10 := Lib.hid (E5.below (w := w9.drew) (by exact E_9.out) BB10.out)
    have E_11 := Lib.hid (E_10.out.below b11)
    have O6_10 := Lib.hid (OI.below (w := w9.drew) (by exact O6_9.out) BB10.out)
    have O6_11 := Lib.hid (O6_10.out.below b11)
    have X_10 := Lib.hid (E5.below (w := w9.drew) (by exact X_9.out) BB10.out)
    have X_11 := Lib.hid (X_10.out.below b11)
    have O8_10 := Lib.hid (OI.below (w := w9.drew) (by exact O8_9.out) BB10.out)
    have O8_11 := Lib.hid (O8_10.out.below b11)
    have BW_10 := Lib.hid (below_step (w := w9.drew) (by exact BW_9.out.drew) BB10.out (by exact hsz9))
    have BW_11 := Lib.hid (below_step BW_10.out b11 BW_10.out.size)
    clear Ec0 Ec1 Ec2 Ec3 Ec4 Xc0 Xc1 Xc2 Xc3 Xc4
    have s_10 : w9.heap.size ≤ w10.heap.size := BB10.out.size
    have s_11 : w10.heap.size ≤ w11.heap.size := b11.size
    go_wp2_with fail
    refine (laws_toInt64S_c _ _ _ (z1.take len1) _ H1.out (by omega) r1_11.out).mono ?_
    rintro e w12 ⟨g12, rfl, o12, b12⟩
    have BW_12 := Lib.hid (below_step BW_11.out b12 BW_11.out.size)
    have r0_12 := Lib.hid (r0_11.out.below b12)
    have r1_12 := Lib.hid (r1_11.out.below b12)
    have E_12 := Lib.hid (E_11.out.below b12)
    have O6_12 := Lib.hid (O6_11.out.below b12)
    have X_12 := Lib.hid (X_11.out.below b12)
    have O8_12 := Lib.hid (O8_11.out.below b12)
    have O12_12 := Lib.hid o12
    go_wp2_with fail
    refine (laws_eqInt64S_c _ _ _ _ _ _ (z1.take len1) _ H1.out H1.out (by omega) O8_12.out.ri O12_12.out.ri).mono ?_
    rintro e w13 ⟨rfl, b13⟩
    have BW_13 := Lib.hid (below_step BW_12.out b13 BW_12.out.size)
    have r0_13 := Lib.hid (r0_12.out.below b13)
    have r1_13 := Lib.hid (r1_12.out.below b13)
    have E_13 := Lib.hid (E_12.out.below b13)
    have O6_13 := Lib.hid (O6_12.out.below b13)
    have X_13 := Lib.hid (X_12.out.below b13)
    have O8_13 := Lib.hid (O8_12.out.below b13)
    have O12_13 := Lib.hid (O12_12.out.below b13)
    go_wp2_with fail
    go_ret
    exact ⟨rfl, BW_13.out⟩

set_option maxRecDepth 100000 in
theorem lifted (os : Os) (started : os.Started) (H : Type) (enc : TypeId × Value → H) :
    ReturnsInHanded {} Try.checked os 7 .any (Rows.fnExactAreFinishesSpec.pre6 enc Try.prog Try.f7 Rows.fnExactAreFinishesRow.domain false) (Rows.fnExactAreFinishesSpec.post enc Try.prog Try.f7 false true false false) := by
  refine returnsInHanded_of_change (C := Try.checked) own started (by kernel_rfl) Try.func7
    (ChangeSpec.witness6 (enc := enc) (C := Try.checked) false ⟨#[], #[.agg #[.int .i64 0, .int .i64 0, .int .i64 0, .int .i64 0, .slice none 0 0], .slice none 0 0], []⟩ 8 (by kernel_rfl) (by kernel_rfl) (by kernel_rfl) (by kernel_rfl)) ?_
  intro W base args ds gs before hval0 hW hcnd _
  have hval : ∀ (j : Nat) t v, Try.f7.params[j]? = some t → args[j]? = some v → Value.okWide Try.prog W .any base t v := hval0
  have hW' := hW
  obtain ⟨p, q, hA0, hV, rfl, hfz, hnd⟩ := hW
  have hA : DataW.TrodAll enc Try.prog W 0 (fun _ => true) true Try.f7.params.toList args.toList ds p := hA0
  rw [Try.params7] at hA hval
  obtain ⟨v0, vs0, d0, ds0, p0, q0, hargs, rfl, rfl, h0, r0⟩ := trodAll_cons hA
  obtain ⟨v1, vs1, d1, ds1, p1, q1, rfl, rfl, rfl, h1, r1⟩ := trodAll_cons r0
  obtain ⟨rfl, rfl, rfl⟩ := trodAll_nil r1
  obtain rfl : args = #[v0, v1] := by cases args; simp_all
  obtain ⟨rfl, rfl⟩ := trodVars_none hV
  have k0 := h0
  have lt0 : ∀ x ∈ p0, x.block < W.heap.size := by obtain ⟨m, hm⟩ := k0; exact DataW.trod_lt m _ _ _ hm
  obtain ⟨f00, f01, f02, f03, f04, y00, y01, y02, y03, y04, m0, rfl, t00, t01, t02, t03, t04⟩ := open_agg5 Try.underlying24 (by kernel_rfl) (by kernel_rfl) (hval 0 24 v0 rfl rfl) h0
  obtain ⟨a00, e00, -, -⟩ := DataW.trod_int Try.underlying2 t00
  obtain rfl : f00 = .int .i64 a00 := by simpa using e00
  obtain ⟨a01, e01, -, -⟩ := DataW.trod_int Try.underlying2 t01
  obtain rfl : f01 = .int .i64 a01 := by simpa using e01
  obtain ⟨a02, e02, -, -⟩ := DataW.trod_int Try.underlying2 t02
  obtain rfl : f02 = .int .i64 a02 := by simpa using e02
  obtain ⟨a03, e03, -, -⟩ := DataW.trod_int Try.underlying2 t03
  obtain rfl : f03 = .int .i64 a03 := by simpa using e03
  obtain ⟨a0, len0, cap0, z0, rfl, w0⟩ : ∃ a len cap zs, f04 = .slice a len cap ∧ IsRow .i64 W a len cap zs := by
    rcases open_ints Try.underlying22 Try.underlying2 (by kernel_rfl) t04 with ⟨hcs, _⟩ | ⟨x, l, c, zs, hcs, _, hl, hm, hz, _, hcell, hwz⟩
    · exact ⟨none, 0, 0, [], by simpa using hcs, .inl ⟨rfl, rfl, rfl, rfl⟩⟩
    · exact ⟨_, _, _, zs, by simpa using hcs, .inr ⟨_, rfl, hl, hm, by simpa using hz, hcell, hwz⟩⟩
  obtain ⟨a1, len1, cap1, rfl⟩ := okWide_slice Try.underlying22 (hval 1 22 v1 rfl rfl)
  have k1 := h1
  have lt1 : ∀ x ∈ p1, x.block < W.heap.size := by obtain ⟨m, hm⟩ := k1; exact DataW.trod_lt m _ _ _ hm
  obtain ⟨z1, w1⟩ : ∃ zs, IsRow .i64 W a1 len1 cap1 zs := by
    obtain ⟨fuel, hf⟩ := h1
    rcases open_ints Try.underlying22 Try.underlying2 (by kernel_rfl) hf with ⟨hcs, _⟩ | ⟨x, l, c, zs, hcs, _, hl, hm, hz, _, hcell, hwz⟩
    · simp [Value.cells] at hcs
      obtain ⟨rfl, rfl, rfl⟩ := hcs
      exact ⟨[], .inl ⟨rfl, rfl, rfl, rfl⟩⟩
    · simp [Value.cells] at hcs
      obtain ⟨rfl, rfl, rfl⟩ := hcs
      exact ⟨zs, .inr ⟨_, rfl, hl, hm, by simpa using hz, hcell, hwz⟩⟩
  clear hA0 hval0
  refine (walk a00 a01 a02 a03 a0 len0 cap0 z0 a1 len1 cap1 z1 W w0 w1).mono fun e W' ⟨he, bel⟩ => ?_
  subst he
  exact ⟨_, rfl, _, _, _, [], _, [], hW', trodAll_mk1 (shut_bool Try.underlying4 _), (trodAll_cons_mk (Below.trod laidOut (by kernel_rfl) (of_decide_eq_true (by kernel_rfl)) k0 bel lt0) (trodAll_cons_mk (Below.trod laidOut (by kernel_rfl) (of_decide_eq_true (by kernel_rfl)) k1 bel lt1) trodAll_mk0)), rfl, bel.frame _, fun h => by cases h⟩

theorem over : Rows.fnExactAreFinishesRow.holds Try.pinned (OpenSpec.ofChange Rows.fnExactAreFinishesSpec) :=
  OpenClaim.holds_of_wide 7 Try.f7 rfl rfl rfl rfl rfl rfl rfl ⟨rfl, rfl, rfl, rfl, rfl⟩ rfl rfl rfl rfl rfl (by kernel_rfl) Try.func7 (by kernel_rfl)
    (of_decide_eq_true (by kernel_rfl)) (by unfold Func.isWrapper; first | (rw [if_pos (by decide +kernel)]; kernel_rfl) | (rw [if_neg (by decide +kernel)]; exact ⟨rfl, rfl⟩))
    (fun os started H enc _ => lifted os started H enc)

/-- THE STATEMENT. -/
theorem proved : Rows.FnExactAreFinishesSaid := over
#print axioms proved
end Go.Proofs.Ytdjmpagnojghoaa.fnExactAreFinishes
