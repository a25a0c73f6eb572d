/-
  PROVED: 'FnExactPayoutsOf' returns true for every input and leaves its arguments as they were. Conditions: none but the statement's own.
-/
import Derived.Test.YtdjmpagnojghoaaFrame
import Derived.Test.YtdjmpagnojghoaaPay
import Derived.Test.YtdjmpagnojghoaaLawEv
import Derived.Test.YtdjmpagnojghoaaFrameEv
namespace Go.Proofs.Ytdjmpagnojghoaa.fnExactPayoutsOf
open Go.ChangeShapes Go.WideShapes Go.ChangeAt Go.RowKit
open Go.ChangeMaps (open_string shut_string)
set_option linter.unusedVariables false

set_option maxHeartbeats 12000000 in
/-- THE WALK. -/
theorem walk (a00 a01 a02 a03 : Int) (a0 : Option Addr) (len0 cap0 : Nat) (z0 : List Int) (w : World) (w0 : IsRow .i64 w a0 len0 cap0 z0) :
    Calls Try.prog 8 #[.agg #[.int .i64 a00, .int .i64 a01, .int .i64 a02, .int .i64 a03, .slice a0 len0 cap0]] w fun e w' => e = .returned (.bool true) ∧ Below w.heap.size w w' := by
  have r0 : RI w a0 (z0.take len0) := isRow_ri w0
  have H0 := Lib.hid (show (z0.take len0).length = len0 from isRow_len w0)
  have m0 : len0 ≤ 9223372036854775807 := isRow_max w0
  by_cases hb0 : 1048576 < len0
  · go_enter Try.func8, Try.ntmps8
    go_wp2_with fail
    refine (laws_szEvent_c a00 a01 a02 a03 _ _ _ _ _ (by omega) (by omega) m0).mono ?_
    rintro e w1 ⟨rfl, b1⟩
    rw [if_pos (by omega)]
    go_wp2_with fail
    go_ret
    exact ⟨rfl, (below_box _ _).trans (b1.mono (by simp))⟩
  have r0_0 := Lib.hid r0
  have BW_0 := Lib.hid (Below.refl w.heap.size w)
  go_enter Try.func8, Try.ntmps8
  have r0_1 := Lib.hid (r0_0.out.below (below_box w (.cells #[.int .i64 a00, .int .i64 a01, .int .i64 a02, .int .i64 a03, .slice a0 len0 cap0] 24)))
  have BW_1 := Lib.hid (below_step BW_0.out (below_box w (.cells #[.int .i64 a00, .int .i64 a01, .int .i64 a02, .int .i64 a03, .slice a0 len0 cap0] 24)) BW_0.out.size)
  have E_1 := Lib.hid (E5.new 24 w a00 a01 a02 a03 a0 len0 cap0)
  go_wp2_with fail
  refine (laws_szEvent_c a00 a01 a02 a03 _ _ _ _ _ (by omega) (by omega) m0).mono ?_
  rintro e w2 ⟨rfl, b2⟩
  rw [if_neg (by omega)]
  have hge : ¬ ((1048576 : Int) - (len0 : Int)) < 0 := by omega
  have BW_2 := Lib.hid (below_step BW_1.out b2 BW_1.out.size)
  have r0_2 := Lib.hid (r0_1.out.below b2)
  have E_2 := Lib.hid (E_1.out.below b2)
  obtain ⟨Ec0, Ec1, Ec2, Ec3, Ec4⟩ := E_2.out.cells
  go_wp2_with fail
  refine (laws_toEvent_c a00 a01 a02 a03 _ _ _ (z0.take len0) _ H0.out (by omega) r0_2.out).mono ?_
  rintro e w3 ⟨g3, rfl, o3, b3⟩
  clear Ec0 Ec1 Ec2 Ec3 Ec4
  have BW_3 := Lib.hid (below_step BW_2.out b3 BW_2.out.size)
  have r0_3 := Lib.hid (r0_2.out.below b3)
  have E_3 := Lib.hid (E_2.out.below b3)
  have O3_3 := Lib.hid o3
  go_wp2_with fail
  refine (spec_PayoutsOf_c a00 a01 a02 a03 _ _ _ (z0.take len0) _ H0.out (by omega) O3_3.out.ri).mono ?_
  rintro e w4 ⟨G4, n4, c4, rfl, L4, M4, o4, b4⟩
  have BW_4 := Lib.hid (below_step BW_3.out b4 BW_3.out.size)
  have r0_4 := Lib.hid (r0_3.out.below b4)
  have E_4 := Lib.hid (E_3.out.below b4)
  have O3_4 := Lib.hid (O3_3.out.below b4)
  have O4_4 := Lib.hid o4
  obtain ⟨Ec0, Ec1, Ec2, Ec3, Ec4⟩ := E_4.out.cells
  go_wp2_with fail
  refine (laws_toEvent_c a00 a01 a02 a03 _ _ _ (z0.take len0) _ H0.out (by omega) r0_4.out).mono ?_
  rintro e w5 ⟨g5, rfl, o5, b5⟩
  clear Ec0 Ec1 Ec2 Ec3 Ec4
  have BW_5 := Lib.hid (below_step BW_4.out b5 BW_4.out.size)
  have r0_5 := Lib.hid (r0_4.out.below b5)
  have E_5 := Lib.hid (E_4.out.below b5)
  have O4_5 := Lib.hid (O4_4.out.below b5)
  have O5_5 := Lib.hid o5
  have r0_6 := Lib.hid (r0_5.out.below (below_box w5 (.cells #[.int .i64 a00, .int .i64 a01, .int .i64 a02, .int .i64 a03, .slice (some ⟨g5, 0, none⟩) len0 len0] 27)))
  have E_6 := Lib.hid (E_5.out.below (below_box w5 (.cells #[.int .i64 a00, .int .i64 a01, .int .i64 a02, .int .i64 a03, .slice (some ⟨g5, 0, none⟩) len0 len0] 27)))
  have O4_6 := Lib.hid (O4_5.out.below (below_box w5 (.cells #[.int .i64 a00, .int .i64 a01, .int .i64 a02, .int .i64 a03, .slice (some ⟨g5, 0, none⟩) len0 len0] 27)))
  have O5_6 := Lib.hid (O5_5.out.below (below_box w5 (.cells #[.int .i64 a00, .int .i64 a01, .int .i64 a02, .int .i64 a03, .slice (some ⟨g5, 0, none⟩) len0 len0] 27)))
  have BW_6 := Lib.hid (below_step BW_5.out (below_box w5 (.cells #[.int .i64 a00, .int .i64 a01, .int .i64 a02, .int .i64 a03, .slice (some ⟨g5, 0, none⟩) len0 len0] 27)) BW_5.out.size)
  have X_6 := Lib.hid (E5.new 27 w5 a00 a01 a02 a03 (some ⟨g5, 0, none⟩) len0 len0)
  go_wp2_with fail
  refine (impl_PayoutsOf_c a00 a01 a02 a03 _ _ _ (z0.take len0) _ H0.out (by omega) O5_6.out.ri).mono ?_
  rintro e w7 ⟨G7, n7, c7, rfl, L7, M7, o7, b7⟩
  have BW_7 := Lib.hid (below_step BW_6.out b7 BW_6.out.size)
  have r0_7 := Lib.hid (r0_6.out.below b7)
  have E_7 := Lib.hid (E_6.out.below b7)
  have O4_7 := Lib.hid (O4_6.out.below b7)
  have O5_7 := Lib.hid (O5_6.out.below b7)
  have X_7 := Lib.hid (X_6.out.below b7)
  have O7_7 := Lib.hid o7
  go_wp2_with fail
  refine (laws_eqInt64S_c _ _ _ _ _ _ (pvV a00 a01 a02 a03 (z0.take len0)) _ L7.out L4.out (by omega) O7_7.out.ri O4_7.out.ri).mono ?_
  rintro e w8 ⟨rfl, b8⟩
  have BW_8 := Lib.hid (below_step BW_7.out b8 BW_7.out.size)
  have r0_8 := Lib.hid (r0_7.out.below b8)
  have E_8 := Lib.hid (E_7.out.below b8)
  have O4_8 := Lib.hid (O4_7.out.below b8)
  have O5_8 := Lib.hid (O5_7.out.below b8)
  have X_8 := Lib.hid (X_7.out.below b8)
  have O7_8 := Lib.hid (O7_7.out.below b8)
  obtain ⟨Ec0, Ec1, Ec2, Ec3, Ec4⟩ := E_8.out.cells
  obtain ⟨Xc0, Xc1, Xc2, Xc3, Xc4⟩ := X_8.out.cells
  go_wp2_with fail
  have hsz8 : w.heap.size ≤ w8.heap.size := BW_8.out.size
  go_region_with ((first
    | (go_at_call 15; refine (laws_toEvent_c a00 a01 a02 a03 _ _ _ (z0.take len0) _ H0.out (by omega) (by exact r0_8.out)).mono ?_; rintro e w9 ⟨g9, rfl, o9, b9⟩; have XX : E5 27 w9 w5.heap.size a00 a01 a02 a03 (some ⟨g5, 0, none⟩) len0 len0 := E5.below (by exact X_8.out) b9; obtain ⟨Xc0, Xc1, Xc2, Xc3, Xc4⟩ := XX.cells; have OO9 := Lib.hid o9; have BB9 := Lib.hid b9; clear XX o9 b9)
    | (go_at_call 17; refine (laws_eqEvent_c a00 a01 a02 a03 _ _ _ _ _ _ (z0.take len0) _ H0.out H0.out (by omega) (OI.ri (OI.below (by exact O5_8.out) BB9.out)) (OI.ri OO9.out)).mono ?_; rintro e w10 ⟨rfl, b10⟩)))
  all_goals
    have r0_9 := Lib.hid (RI.below (w := w8.drew) (by exact r0_8.out) BB9.out)
    have r0_10 := Lib.hid (r0_9.out.below b10)
    have E_9 := Lib.hid (E5.below (w := w8.drew) (by exact E_8.out) BB9.out)
    have E_10 := Lib.hid (E_9.out.below b10)
    have O4_9 := Lib.hid (OI.below (w := w8.drew) (by exact O4_8.out) BB9.out)
    have O4_10 := Lib.hid (O4_9.out.below b10)
    have O5_9 := Lib.hid (OI.below (w := w8.drew) (by exact O5_8.out) BB9.out)
    have O5_10 := Lib.hid (O5_9.out.below b10)
    have X_9 := Lib.hid (E5.below (w := w8.drew) (by exact X_8.out) BB9.out)
    have X_10 := Lib.hid (X_9.out.below b10)
    have O7_9 := Lib.hid (OI.below (w := w8.drew) (by exact O7_8.out) BB9.out)
    have O7_10 := Lib.hid (O7_9.out.below b10)
    have BW_9 := Lib.hid (below_step (w := w8.drew) (by exact BW_8.out.drew) BB9.out (by exact hsz8))
    have BW_10 := Lib.hid (below_step BW_9.out b10 BW_9.out.size)
    clear Ec0 Ec1 Ec2 Ec3 Ec4 Xc0 Xc1 Xc2 Xc3 Xc4
    have s_9 : w8.heap.size ≤ w9.heap.size := BB9.out.size
    have s_10 : w9.heap.size ≤ w10.heap.size := b10.size
    have s_1 : w.heap.size + 1 ≤ (w.alloc (.cells #[.int .i64 a00, .int .i64 a01, .int .i64 a02, .int .i64 a03, .slice a0 len0 cap0] 24)).heap.size := by simp
    have t_1 : (w.alloc (.cells #[.int .i64 a00, .int .i64 a01, .int .i64 a02, .int .i64 a03, .slice a0 len0 cap0] 24)).heap.size ≤ w.heap.size + 1 := by simp
    have s_2 : (w.alloc (.cells #[.int .i64 a00, .int .i64 a01, .int .i64 a02, .int .i64 a03, .slice a0 len0 cap0] 24)).heap.size ≤ w2.heap.size := b2.size
    have s_3 : w2.heap.size ≤ w3.heap.size := b3.size
    have s_4 : w3.heap.size ≤ w4.heap.size := b4.size
    have s_5 : w4.heap.size ≤ w5.heap.size := b5.size
    have s_6 : w5.heap.size + 1 ≤ (w5.alloc (.cells #[.int .i64 a00, .int .i64 a01, .int .i64 a02, .int .i64 a03, .slice (some ⟨g5, 0, none⟩) len0 len0] 27)).heap.size := by simp
    have t_6 : (w5.alloc (.cells #[.int .i64 a00, .int .i64 a01, .int .i64 a02, .int .i64 a03, .slice (some ⟨g5, 0, none⟩) len0 len0] 27)).heap.size ≤ w5.heap.size + 1 := by simp
    have s_7 : (w5.alloc (.cells #[.int .i64 a00, .int .i64 a01, .int .i64 a02, .int .i64 a03, .slice (some ⟨g5, 0, none⟩) len0 len0] 27)).heap.size ≤ w7.heap.size := b7.size
    have s_8 : w7.heap.size ≤ w8.heap.size := b8.size
    obtain ⟨Xc0, Xc1, Xc2, Xc3, Xc4⟩ := X_10.out.cells
    go_wp2_with fail
    refine (laws_markEvent_c a00 a01 a02 a03 _ _ _ (z0.take len0) _ _ _ _ H0.out (by omega) (by omega) (by omega) O5_10.out).mono ?_
    rintro e w11 ⟨rfl, o11, k11⟩
    clear Xc0 Xc1 Xc2 Xc3 Xc4
    have s_11 : w10.heap.size ≤ w11.heap.size := k11.size
    have BW_11 := Lib.hid (BW_10.out.trans (k11.below (by omega) (by omega)))
    have r0_11 := Lib.hid (r0_0.out.below BW_11.out)
    have E_11 := Lib.hid (E_10.out.kept k11 (by omega))
    have O4_11 := Lib.hid (O4_10.out.kept k11 (by omega))
    have X_11 := Lib.hid (X_10.out.kept k11 (by omega))
    have O7_11 := Lib.hid (O7_10.out.kept k11 (by omega))
    have O5_11 := Lib.hid o11
    go_wp2_with fail
    refine (laws_eqInt64S_c _ _ _ _ _ _ (pvV a00 a01 a02 a03 (z0.take len0)) _ L7.out L4.out (by omega) O7_11.out.ri O4_11.out.ri).mono ?_
    rintro e w12 ⟨rfl, b12⟩
    have BW_12 := Lib.hid (below_step BW_11.out b12 BW_11.out.size)
    have r0_12 := Lib.hid (r0_11.out.below b12)
    have E_12 := Lib.hid (E_11.out.below b12)
    have O4_12 := Lib.hid (O4_11.out.below b12)
    have O7_12 := Lib.hid (O7_11.out.below b12)
    have s_12 := b12.size
    go_wp2_with fail
    refine (laws_markInt64S_c _ _ _ (pvV a00 a01 a02 a03 (z0.take len0)) _ _ _ _ L7.out (by omega) (by omega) (by omega) O7_12.out).mono ?_
    rintro e w13 ⟨rfl, o13, k13⟩
    have s_13 : w12.heap.size ≤ w13.heap.size := k13.size
    have BW_13 := Lib.hid (BW_12.out.trans (k13.below (by omega) (by omega)))
    have r0_13 := Lib.hid (r0_0.out.below BW_13.out)
    have E_13 := Lib.hid (E_12.out.kept k13 (by omega))
    have O4_13 := Lib.hid (O4_12.out.kept k13 (by omega))
    have O7_13 := Lib.hid o13
    go_wp2_with fail
    refine (laws_heldInt64S_c _ _ _ _ _ (by omega) (by omega) (by omega) O7_13.out.ri).mono ?_
    rintro e w' ⟨rfl, rfl⟩
    obtain ⟨Ec0, Ec1, Ec2, Ec3, Ec4⟩ := E_13.out.cells
    go_wp2_with fail
    refine (laws_toEvent_c a00 a01 a02 a03 _ _ _ (z0.take len0) _ H0.out (by omega) r0_13.out).mono ?_
    rintro e w14 ⟨g14, rfl, o14, b14⟩
    clear Ec0 Ec1 Ec2 Ec3 Ec4
    have BW_14 := Lib.hid (below_step BW_13.out b14 BW_13.out.size)
    have r0_14 := Lib.hid (r0_13.out.below b14)
    have E_14 := Lib.hid (E_13.out.below b14)
    have O4_14 := Lib.hid (O4_13.out.below b14)
    have O7_14 := Lib.hid (O7_13.out.below b14)
    have O14_14 := Lib.hid o14
    go_wp2_with fail
    refine (impl_PayoutsOf_c a00 a01 a02 a03 _ _ _ (z0.take len0) _ H0.out (by omega) O14_14.out.ri).mono ?_
    rintro e w15 ⟨G15, n15, c15, rfl, L15, M15, o15, b15⟩
    have BW_15 := Lib.hid (below_step BW_14.out b15 BW_14.out.size)
    have r0_15 := Lib.hid (r0_14.out.below b15)
    have E_15 := Lib.hid (E_14.out.below b15)
    have O4_15 := Lib.hid (O4_14.out.below b15)
    have O7_15 := Lib.hid (O7_14.out.below b15)
    have O14_15 := Lib.hid (O14_14.out.below b15)
    have O15_15 := Lib.hid o15
    go_wp2_with fail
    refine (laws_eqInt64S_c _ _ _ _ _ _ (pvV a00 a01 a02 a03 (z0.take len0)) _ L15.out L4.out (by omega) O15_15.out.ri O4_15.out.ri).mono ?_
    rintro e w16 ⟨rfl, b16⟩
    have BW_16 := Lib.hid (below_step BW_15.out b16 BW_15.out.size)
    have r0_16 := Lib.hid (r0_15.out.below b16)
    have E_16 := Lib.hid (E_15.out.below b16)
    have O4_16 := Lib.hid (O4_15.out.below b16)
    have O7_16 := Lib.hid (O7_15.out.below b16)
    have O14_16 := Lib.hid (O14_15.out.below b16)
    have O15_16 := Lib.hid (O15_15.out.below b16)
    go_wp2_with fail
    refine (laws_heldInt64S_c _ _ _ _ _ (by omega) (by omega) (by omega) O7_16.out.ri).mono ?_
    rintro e w' ⟨rfl, rfl⟩
    go_wp2_with fail
    go_ret
    exact ⟨rfl, BW_16.out⟩

set_option maxRecDepth 100000 in
theorem lifted (os : Os) (started : os.Started) (H : Type) (enc : TypeId × Value → H) :
    ReturnsInHanded {} Try.checked os 8 .any (Rows.fnExactPayoutsOfSpec.pre6 enc Try.prog Try.f8 Rows.fnExactPayoutsOfRow.domain false) (Rows.fnExactPayoutsOfSpec.post enc Try.prog Try.f8 false true false false) := by
  refine returnsInHanded_of_change (C := Try.checked) own started (by kernel_rfl) Try.func8
    (ChangeSpec.witness6 (enc := enc) (C := Try.checked) false ⟨#[], #[.agg #[.int .i64 0, .int .i64 0, .int .i64 0, .int .i64 0, .slice none 0 0]], []⟩ 8 (by kernel_rfl) (by kernel_rfl) (by kernel_rfl) (by kernel_rfl)) ?_
  intro W base args ds gs before hval0 hW hcnd _
  have hval : ∀ (j : Nat) t v, Try.f8.params[j]? = some t → args[j]? = some v → Value.okWide Try.prog W .any base t v := hval0
  have hW' := hW
  obtain ⟨p, q, hA0, hV, rfl, hfz, hnd⟩ := hW
  have hA : DataW.TrodAll enc Try.prog W 0 (fun _ => true) true Try.f8.params.toList args.toList ds p := hA0
  rw [Try.params8] at hA hval
  obtain ⟨v0, vs0, d0, ds0, p0, q0, hargs, rfl, rfl, h0, r0⟩ := trodAll_cons hA
  obtain ⟨rfl, rfl, rfl⟩ := trodAll_nil r0
  obtain rfl : args = #[v0] := by cases args; simp_all
  obtain ⟨rfl, rfl⟩ := trodVars_none hV
  have k0 := h0
  have lt0 : ∀ x ∈ p0, x.block < W.heap.size := by obtain ⟨m, hm⟩ := k0; exact DataW.trod_lt m _ _ _ hm
  obtain ⟨f00, f01, f02, f03, f04, y00, y01, y02, y03, y04, m0, rfl, t00, t01, t02, t03, t04⟩ := open_agg5 Try.underlying24 (by kernel_rfl) (by kernel_rfl) (hval 0 24 v0 rfl rfl) h0
  obtain ⟨a00, e00, -, -⟩ := DataW.trod_int Try.underlying2 t00
  obtain rfl : f00 = .int .i64 a00 := by simpa using e00
  obtain ⟨a01, e01, -, -⟩ := DataW.trod_int Try.underlying2 t01
  obtain rfl : f01 = .int .i64 a01 := by simpa using e01
  obtain ⟨a02, e02, -, -⟩ := DataW.trod_int Try.underlying2 t02
  obtain rfl : f02 = .int .i64 a02 := by simpa using e02
  obtain ⟨a03, e03, -, -⟩ := DataW.trod_int Try.underlying2 t03
  obtain rfl : f03 = .int .i64 a03 := by simpa using e03
  obtain ⟨a0, len0, cap0, z0, rfl, w0⟩ : ∃ a len cap zs, f04 = .slice a len cap ∧ IsRow .i64 W a len cap zs := by
    rcases open_ints Try.underlying22 Try.underlying2 (by kernel_rfl) t04 with ⟨hcs, _⟩ | ⟨x, l, c, zs, hcs, _, hl, hm, hz, _, hcell, hwz⟩
    · exact ⟨none, 0, 0, [], by simpa using hcs, .inl ⟨rfl, rfl, rfl, rfl⟩⟩
    · exact ⟨_, _, _, zs, by simpa using hcs, .inr ⟨_, rfl, hl, hm, by simpa using hz, hcell, hwz⟩⟩
  clear hA0 hval0
  refine (walk a00 a01 a02 a03 a0 len0 cap0 z0 W w0).mono fun e W' ⟨he, bel⟩ => ?_
  subst he
  exact ⟨_, rfl, _, _, _, [], _, [], hW', trodAll_mk1 (shut_bool Try.underlying4 _), (trodAll_cons_mk (Below.trod laidOut (by kernel_rfl) (of_decide_eq_true (by kernel_rfl)) k0 bel lt0) trodAll_mk0), rfl, bel.frame _, fun h => by cases h⟩

theorem over : Rows.fnExactPayoutsOfRow.holds Try.pinned (OpenSpec.ofChange Rows.fnExactPayoutsOfSpec) :=
  OpenClaim.holds_of_wide 8 Try.f8 rfl rfl rfl rfl rfl rfl rfl ⟨rfl, rfl, rfl, rfl, rfl⟩ rfl rfl rfl rfl rfl (by kernel_rfl) Try.func8 (by kernel_rfl)
    (of_decide_eq_true (by kernel_rfl)) (by unfold Func.isWrapper; first | (rw [if_pos (by decide +kernel)]; kernel_rfl) | (rw [if_neg (by decide +kernel)]; exact ⟨rfl, rfl⟩))
    (fun os started H enc _ => lifted os started H enc)

/-- THE STATEMENT. -/
theorem proved : Rows.FnExactPayoutsOfSaid := over
#print axioms proved
end Go.Proofs.Ytdjmpagnojghoaa.fnExactPayoutsOf
