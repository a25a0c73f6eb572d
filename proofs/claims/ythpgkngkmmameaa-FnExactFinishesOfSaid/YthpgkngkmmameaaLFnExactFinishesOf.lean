/-
  PROVED: 'FnExactFinishesOf' returns true for every input and leaves its arguments as they were. Conditions: none but the statement's own.
-/
import Derived.Test.YthpgkngkmmameaaFrame
import Derived.Test.YthpgkngkmmameaaFinImpl
import Derived.Test.YthpgkngkmmameaaFinSpec
import Derived.Test.YthpgkngkmmameaaLawEv
import Derived.Test.YthpgkngkmmameaaFrameEv
import Derived.Test.YthpgkngkmmameaaLawMat
namespace Go.Proofs.Ythpgkngkmmameaa.fnExactFinishesOf
open Go.ChangeShapes Go.WideShapes Go.ChangeAt Go.RowKit
open Go.ChangeMaps (open_string shut_string)
set_option linter.unusedVariables false

set_option maxHeartbeats 20000000 in
/-- THE WALK. -/
theorem walk (a00 a01 a02 a03 : Int) (a0 : Option Addr) (len0 cap0 : Nat) (z0 : List Int) (a1 : Option Addr) (len1 cap1 : Nat) (z1 : List (List Int)) (w : World) (w0 : IsRow .i64 w a0 len0 cap0 z0) (w1 : IsMat w a1 len1 z1) :
    Calls Try.prog 8 #[.agg #[.int .i64 a00, .int .i64 a01, .int .i64 a02, .int .i64 a03, .slice a0 len0 cap0], .slice a1 len1 cap1] w fun e w' => e = .returned (.bool true) ∧ Below w.heap.size w w' := by
  have r0 : RI w a0 (z0.take len0) := isRow_ri w0
  have H0 := Lib.hid (show (z0.take len0).length = len0 from isRow_len w0)
  have m0 : len0 ≤ 9223372036854775807 := isRow_max w0
  have r1 : RM w a1 z1 := w1.m
  have H1 := Lib.hid (show z1.length = len1 from w1.len)
  by_cases hb0 : 1048576 < len0
  · go_enter Try.func8, Try.ntmps8
    go_wp2_with fail
    refine (laws_szEvent_c a00 a01 a02 a03 _ _ _ _ _ (by omega) (by omega) m0).mono ?_
    rintro e w1 ⟨rfl, b1⟩
    rw [if_pos (by omega)]
    go_wp2_with fail
    go_ret
    exact ⟨rfl, (below_box _ _).trans (b1.mono (by simp))⟩
  have r0_0 := Lib.hid r0
  have r1_0 := Lib.hid r1
  have BW_0 := Lib.hid (Below.refl w.heap.size w)
  go_enter Try.func8, Try.ntmps8
  have r0_1 := Lib.hid (r0_0.out.below (below_box w (.cells #[.int .i64 a00, .int .i64 a01, .int .i64 a02, .int .i64 a03, .slice a0 len0 cap0] 53)))
  have r1_1 := Lib.hid (r1_0.out.below (below_box w (.cells #[.int .i64 a00, .int .i64 a01, .int .i64 a02, .int .i64 a03, .slice a0 len0 cap0] 53)))
  have BW_1 := Lib.hid (below_step BW_0.out (below_box w (.cells #[.int .i64 a00, .int .i64 a01, .int .i64 a02, .int .i64 a03, .slice a0 len0 cap0] 53)) BW_0.out.size)
  have E_1 := Lib.hid (E5.new 53 w a00 a01 a02 a03 a0 len0 cap0)
  go_wp2_with fail
  refine (laws_szEvent_c a00 a01 a02 a03 _ _ _ _ _ (by omega) (by omega) m0).mono ?_
  rintro e w2 ⟨rfl, b2⟩
  rw [if_neg (by omega)]
  have hge : ¬ ((1048576 : Int) - (len0 : Int)) < 0 := by omega
  have BW_2 := Lib.hid (below_step BW_1.out b2 BW_1.out.size)
  have r0_2 := Lib.hid (r0_1.out.below b2)
  have r1_2 := Lib.hid (r1_1.out.below b2)
  have E_2 := Lib.hid (E_1.out.below b2)
  obtain ⟨Ec0, Ec1, Ec2, Ec3, Ec4⟩ := E_2.out.cells
  go_wp2_with fail
  refine (laws_szInt64SS_c a1 len1 cap1 _ z1 _ (by omega) (by omega) (w1.below BW_2.out)).mono ?_
  rintro e w' ⟨v1, rfl, hv1, rfl⟩
  by_cases hvn1 : v1 < 0
  · go_wp2_with fail
    go_ret
    exact ⟨rfl, BW_2.out⟩
  have HT1 : totN z1 ≤ 1048576 := by have := hv1 (by omega); omega
  have hln1 : len1 ≤ 1048576 := by have := hv1 (by omega); have := H1.out; omega
  have HZ1 := Lib.hid (show ∀ g ∈ z1, g.length ≤ 1048576 from fun g hg => by have := totN_mem hg; omega)
  clear hv1
  clear Ec0 Ec1 Ec2 Ec3 Ec4
  obtain ⟨Ec0, Ec1, Ec2, Ec3, Ec4⟩ := E_2.out.cells
  go_wp2_with fail
  refine (laws_toEvent_c a00 a01 a02 a03 _ _ _ (z0.take len0) _ H0.out (by omega) r0_2.out).mono ?_
  rintro e w3 ⟨g3, rfl, o3, b3⟩
  clear Ec0 Ec1 Ec2 Ec3 Ec4
  have BW_3 := Lib.hid (below_step BW_2.out b3 BW_2.out.size)
  have r0_3 := Lib.hid (r0_2.out.below b3)
  have r1_3 := Lib.hid (r1_2.out.below b3)
  have E_3 := Lib.hid (E_2.out.below b3)
  have O3_3 := Lib.hid o3
  go_wp2_with fail
  refine (laws_toInt64SS_c _ _ _ z1 _ H1.out (by omega) HZ1 r1_3.out).mono ?_
  rintro e w4 ⟨g4, rfl, o4, b4⟩
  have BW_4 := Lib.hid (below_step BW_3.out b4 BW_3.out.size)
  have r0_4 := Lib.hid (r0_3.out.below b4)
  have r1_4 := Lib.hid (r1_3.out.below b4)
  have E_4 := Lib.hid (E_3.out.below b4)
  have O3_4 := Lib.hid (O3_3.out.below b4)
  have O4_4 := Lib.hid o4
  go_wp2_with fail
  refine (spec_FinishesOf_c a00 a01 a02 a03 _ _ _ (z0.take len0) _ _ _ z1 _ H0.out (by omega) O3_4.out.ri H1.out (by omega) HZ1 O4_4.out.rm).mono ?_
  rintro e w5 ⟨G5, n5, c5, rfl, L5, M5, o5, b5⟩
  have BW_5 := Lib.hid (below_step BW_4.out b5 BW_4.out.size)
  have r0_5 := Lib.hid (r0_4.out.below b5)
  have r1_5 := Lib.hid (r1_4.out.below b5)
  have E_5 := Lib.hid (E_4.out.below b5)
  have O3_5 := Lib.hid (O3_4.out.below b5)
  have O4_5 := Lib.hid (O4_4.out.below b5)
  have O5_5 := Lib.hid o5
  obtain ⟨Ec0, Ec1, Ec2, Ec3, Ec4⟩ := E_5.out.cells
  go_wp2_with fail
  refine (laws_toEvent_c a00 a01 a02 a03 _ _ _ (z0.take len0) _ H0.out (by omega) r0_5.out).mono ?_
  rintro e w6 ⟨g6, rfl, o6, b6⟩
  clear Ec0 Ec1 Ec2 Ec3 Ec4
  have BW_6 := Lib.hid (below_step BW_5.out b6 BW_5.out.size)
  have r0_6 := Lib.hid (r0_5.out.below b6)
  have r1_6 := Lib.hid (r1_5.out.below b6)
  have E_6 := Lib.hid (E_5.out.below b6)
  have O5_6 := Lib.hid (O5_5.out.below b6)
  have O6_6 := Lib.hid o6
  have r0_7 := Lib.hid (r0_6.out.below (below_box w6 (.cells #[.int .i64 a00, .int .i64 a01, .int .i64 a02, .int .i64 a03, .slice (some ⟨g6, 0, none⟩) len0 len0] 58)))
  have r1_7 := Lib.hid (r1_6.out.below (below_box w6 (.cells #[.int .i64 a00, .int .i64 a01, .int .i64 a02, .int .i64 a03, .slice (some ⟨g6, 0, none⟩) len0 len0] 58)))
  have E_7 := Lib.hid (E_6.out.below (below_box w6 (.cells #[.int .i64 a00, .int .i64 a01, .int .i64 a02, .int .i64 a03, .slice (some ⟨g6, 0, none⟩) len0 len0] 58)))
  have O5_7 := Lib.hid (O5_6.out.below (below_box w6 (.cells #[.int .i64 a00, .int .i64 a01, .int .i64 a02, .int .i64 a03, .slice (some ⟨g6, 0, none⟩) len0 len0] 58)))
  have O6_7 := Lib.hid (O6_6.out.below (below_box w6 (.cells #[.int .i64 a00, .int .i64 a01, .int .i64 a02, .int .i64 a03, .slice (some ⟨g6, 0, none⟩) len0 len0] 58)))
  have BW_7 := Lib.hid (below_step BW_6.out (below_box w6 (.cells #[.int .i64 a00, .int .i64 a01, .int .i64 a02, .int .i64 a03, .slice (some ⟨g6, 0, none⟩) len0 len0] 58)) BW_6.out.size)
  have X_7 := Lib.hid (E5.new 58 w6 a00 a01 a02 a03 (some ⟨g6, 0, none⟩) len0 len0)
  go_wp2_with fail
  refine (laws_toInt64SS_c _ _ _ z1 _ H1.out (by omega) HZ1 r1_7.out).mono ?_
  rintro e w8 ⟨g8, rfl, o8, b8⟩
  have BW_8 := Lib.hid (below_step BW_7.out b8 BW_7.out.size)
  have r0_8 := Lib.hid (r0_7.out.below b8)
  have r1_8 := Lib.hid (r1_7.out.below b8)
  have E_8 := Lib.hid (E_7.out.below b8)
  have O5_8 := Lib.hid (O5_7.out.below b8)
  have O6_8 := Lib.hid (O6_7.out.below b8)
  have X_8 := Lib.hid (X_7.out.below b8)
  have O8_8 := Lib.hid o8
  obtain ⟨Xc0, Xc1, Xc2, Xc3, Xc4⟩ := X_8.out.cells
  go_wp2_with fail
  refine (impl_FinishesOf_c a00 a01 a02 a03 _ _ _ (z0.take len0) _ _ _ z1 _ H0.out (by omega) O6_8.out.ri H1.out (by omega) HZ1 O8_8.out.rm).mono ?_
  rintro e w9 ⟨G9, n9, c9, rfl, L9, M9, o9, b9⟩
  clear Xc0 Xc1 Xc2 Xc3 Xc4
  have BW_9 := Lib.hid (below_step BW_8.out b9 BW_8.out.size)
  have r0_9 := Lib.hid (r0_8.out.below b9)
  have r1_9 := Lib.hid (r1_8.out.below b9)
  have E_9 := Lib.hid (E_8.out.below b9)
  have O5_9 := Lib.hid (O5_8.out.below b9)
  have O6_9 := Lib.hid (O6_8.out.below b9)
  have X_9 := Lib.hid (X_8.out.below b9)
  have O8_9 := Lib.hid (O8_8.out.below b9)
  have O9_9 := Lib.hid o9
  go_wp2_with fail
  refine (laws_eqInt64S_c _ _ _ _ _ _ (foV a00 a01 a02 a03 (z0.take len0) z1) _ L9.out L5.out (by omega) O9_9.out.ri O5_9.out.ri).mono ?_
  rintro e w10 ⟨rfl, b10⟩
  have BW_10 := Lib.hid (below_step BW_9.out b10 BW_9.out.size)
  have r0_10 := Lib.hid (r0_9.out.below b10)
  have r1_10 := Lib.hid (r1_9.out.below b10)
  have E_10 := Lib.hid (E_9.out.below b10)
  have O5_10 := Lib.hid (O5_9.out.below b10)
  have O6_10 := Lib.hid (O6_9.out.below b10)
  have X_10 := Lib.hid (X_9.out.below b10)
  have O8_10 := Lib.hid (O8_9.out.below b10)
  have O9_10 := Lib.hid (O9_9.out.below b10)
  obtain ⟨Ec0, Ec1, Ec2, Ec3, Ec4⟩ := E_10.out.cells
  obtain ⟨Xc0, Xc1, Xc2, Xc3, Xc4⟩ := X_10.out.cells
  go_wp2_with fail
  have hsz10 : w.heap.size ≤ w10.heap.size := BW_10.out.size
  go_region_with ((first
    | (go_at_call 47; refine (laws_toEvent_c a00 a01 a02 a03 _ _ _ (z0.take len0) _ H0.out (by omega) (by exact r0_10.out)).mono ?_; rintro e w11 ⟨g11, rfl, o11, b11⟩; have XX : E5 58 w11 w6.heap.size a00 a01 a02 a03 (some ⟨g6, 0, none⟩) len0 len0 := E5.below (by exact X_10.out) b11; obtain ⟨Xc0, Xc1, Xc2, Xc3, Xc4⟩ := XX.cells; have OO11 := Lib.hid o11; have BB11 := Lib.hid b11; clear XX o11 b11)
    | (go_at_call 50; refine (laws_eqEvent_c a00 a01 a02 a03 _ _ _ _ _ _ (z0.take len0) _ H0.out H0.out (by omega) (OI.ri (OI.below (by exact O6_10.out) BB11.out)) (OI.ri OO11.out)).mono ?_; rintro e w12 ⟨rfl, b12⟩)))
  all_goals
    have r0_11 := Lib.hid (RI.below (w := w10.drew) (by exact r0_10.out) BB11.out)
    have r0_12 := Lib.hid (r0_11.out.below b12)
    have r1_11 := Lib.hid (RM.below (w := w10.drew) (by exact r1_10.out) BB11.out)
    have r1_12 := Lib.hid (r1_11.out.below b12)
    have E_11 := Lib.hid (E5.below (w := w10.drew) (by exact E_10.out) BB11.out)
    have E_12 := Lib.hid (E_11.out.below b12)
    have O5_11 := Lib.hid (OI.below (w := w10.drew) (by exact O5_10.out) BB11.out)
    have O5_12 := Lib.hid (O5_11.out.below b12)
    have O6_11 := Lib.hid (OI.below (w := w10.drew) (by exact O6_10.out) BB11.out)
    have O6_12 := Lib.hid (O6_11.out.below b12)
    have X_11 := Lib.hid (E5.below (w := w10.drew) (by exact X_10.out) BB11.out)
    have X_12 := Lib.hid (X_11.out.below b12)
    have O8_11 := Lib.hid (OM.below (w := w10.drew) (by exact O8_10.out) BB11.out)
    have O8_12 := Lib.hid (O8_11.out.below b12)
    have O9_11 := Lib.hid (OI.below (w := w10.drew) (by exact O9_10.out) BB11.out)
    have O9_12 := Lib.hid (O9_11.out.below b12)
    have BW_11 := Lib.hid (below_step (w := w10.drew) (by exact BW_10.out.drew) BB11.out (by exact hsz10))
    have BW_12 := Lib.hid (below_step BW_11.out b12 BW_11.out.size)
    clear Ec0 Ec1 Ec2 Ec3 Ec4 Xc0 Xc1 Xc2 Xc3 Xc4
    have s_11 : w10.heap.size ≤ w11.heap.size := BB11.out.size
    have s_12 : w11.heap.size ≤ w12.heap.size := b12.size
    go_wp2_with fail
    refine (laws_toInt64SS_c _ _ _ z1 _ H1.out (by omega) HZ1 r1_12.out).mono ?_
    rintro e w13 ⟨g13, rfl, o13, b13⟩
    have BW_13 := Lib.hid (below_step BW_12.out b13 BW_12.out.size)
    have r0_13 := Lib.hid (r0_12.out.below b13)
    have r1_13 := Lib.hid (r1_12.out.below b13)
    have E_13 := Lib.hid (E_12.out.below b13)
    have O5_13 := Lib.hid (O5_12.out.below b13)
    have O6_13 := Lib.hid (O6_12.out.below b13)
    have X_13 := Lib.hid (X_12.out.below b13)
    have O8_13 := Lib.hid (O8_12.out.below b13)
    have O9_13 := Lib.hid (O9_12.out.below b13)
    have O13_13 := Lib.hid o13
    go_wp2_with fail
    refine (laws_eqInt64SS_c _ _ _ _ _ _ z1 _ H1.out H1.out (by omega) HZ1 O8_13.out.rm O13_13.out.rm).mono ?_
    rintro e w14 ⟨rfl, b14⟩
    have BW_14 := Lib.hid (below_step BW_13.out b14 BW_13.out.size)
    have r0_14 := Lib.hid (r0_13.out.below b14)
    have r1_14 := Lib.hid (r1_13.out.below b14)
    have E_14 := Lib.hid (E_13.out.below b14)
    have O5_14 := Lib.hid (O5_13.out.below b14)
    have O6_14 := Lib.hid (O6_13.out.below b14)
    have X_14 := Lib.hid (X_13.out.below b14)
    have O8_14 := Lib.hid (O8_13.out.below b14)
    have O9_14 := Lib.hid (O9_13.out.below b14)
    have O13_14 := Lib.hid (O13_13.out.below b14)
    have s_1 : w.heap.size + 1 ≤ (w.alloc (.cells #[.int .i64 a00, .int .i64 a01, .int .i64 a02, .int .i64 a03, .slice a0 len0 cap0] 53)).heap.size := by simp
    have t_1 : (w.alloc (.cells #[.int .i64 a00, .int .i64 a01, .int .i64 a02, .int .i64 a03, .slice a0 len0 cap0] 53)).heap.size ≤ w.heap.size + 1 := by simp
    have s_2 : (w.alloc (.cells #[.int .i64 a00, .int .i64 a01, .int .i64 a02, .int .i64 a03, .slice a0 len0 cap0] 53)).heap.size ≤ w2.heap.size := b2.size
    have s_3 : w2.heap.size ≤ w3.heap.size := b3.size
    have s_4 : w3.heap.size ≤ w4.heap.size := b4.size
    have s_5 : w4.heap.size ≤ w5.heap.size := b5.size
    have s_6 : w5.heap.size ≤ w6.heap.size := b6.size
    have s_7 : w6.heap.size + 1 ≤ (w6.alloc (.cells #[.int .i64 a00, .int .i64 a01, .int .i64 a02, .int .i64 a03, .slice (some ⟨g6, 0, none⟩) len0 len0] 58)).heap.size := by simp
    have t_7 : (w6.alloc (.cells #[.int .i64 a00, .int .i64 a01, .int .i64 a02, .int .i64 a03, .slice (some ⟨g6, 0, none⟩) len0 len0] 58)).heap.size ≤ w6.heap.size + 1 := by simp
    have s_8 : (w6.alloc (.cells #[.int .i64 a00, .int .i64 a01, .int .i64 a02, .int .i64 a03, .slice (some ⟨g6, 0, none⟩) len0 len0] 58)).heap.size ≤ w8.heap.size := b8.size
    have s_9 : w8.heap.size ≤ w9.heap.size := b9.size
    have s_10 : w9.heap.size ≤ w10.heap.size := b10.size
    have s_13 : w12.heap.size ≤ w13.heap.size := b13.size
    have s_14 : w13.heap.size ≤ w14.heap.size := b14.size
    obtain ⟨Xc0, Xc1, Xc2, Xc3, Xc4⟩ := X_14.out.cells
    go_wp2_with fail
    refine (laws_markEvent_c a00 a01 a02 a03 _ _ _ (z0.take len0) _ _ _ _ H0.out (by omega) (by omega) (by omega) O6_14.out).mono ?_
    rintro e w15 ⟨rfl, o15, k15⟩
    clear Xc0 Xc1 Xc2 Xc3 Xc4
    have s_15 : w14.heap.size ≤ w15.heap.size := k15.size
    have BW_15 := Lib.hid (BW_14.out.trans (k15.below (by omega) (by omega)))
    have r0_15 := Lib.hid (r0_0.out.below BW_15.out)
    have r1_15 := Lib.hid (r1_0.out.below BW_15.out)
    have E_15 := Lib.hid (E_14.out.kept k15 (by omega))
    have O5_15 := Lib.hid (O5_14.out.kept k15 (by omega))
    have X_15 := Lib.hid (X_14.out.kept k15 (by omega))
    have O8_15 := Lib.hid (O8_14.out.kept k15 (by omega))
    have O9_15 := Lib.hid (O9_14.out.kept k15 (by omega))
    have O6_15 := Lib.hid o15
    go_wp2_with fail
    refine (laws_markInt64SS_c _ _ _ z1 _ _ _ _ H1.out (by omega) HT1 (by omega) (by omega) O8_15.out).mono ?_
    rintro e w16 ⟨mv16, rfl, mv160, mv161, k16⟩
    have s_16 : w15.heap.size ≤ w16.heap.size := k16.size
    have BW_16 := Lib.hid (BW_15.out.trans (k16.below (by omega) (by omega)))
    have r0_16 := Lib.hid (r0_0.out.below BW_16.out)
    have r1_16 := Lib.hid (r1_0.out.below BW_16.out)
    have E_16 := Lib.hid (E_15.out.kept k16 (by omega))
    have O5_16 := Lib.hid (O5_15.out.kept k16 (by omega))
    have O9_16 := Lib.hid (O9_15.out.kept k16 (by omega))
    go_wp2_with fail
    refine (laws_eqInt64S_c _ _ _ _ _ _ (foV a00 a01 a02 a03 (z0.take len0) z1) _ L9.out L5.out (by omega) O9_16.out.ri O5_16.out.ri).mono ?_
    rintro e w17 ⟨rfl, b17⟩
    have BW_17 := Lib.hid (below_step BW_16.out b17 BW_16.out.size)
    have r0_17 := Lib.hid (r0_16.out.below b17)
    have r1_17 := Lib.hid (r1_16.out.below b17)
    have E_17 := Lib.hid (E_16.out.below b17)
    have O5_17 := Lib.hid (O5_16.out.below b17)
    have O9_17 := Lib.hid (O9_16.out.below b17)
    have s_17 := b17.size
    go_wp2_with fail
    refine (laws_markInt64S_c _ _ _ (foV a00 a01 a02 a03 (z0.take len0) z1) _ _ _ _ L9.out (by omega) (by omega) (by omega) O9_17.out).mono ?_
    rintro e w18 ⟨rfl, o18, k18⟩
    have s_18 : w17.heap.size ≤ w18.heap.size := k18.size
    have BW_18 := Lib.hid (BW_17.out.trans (k18.below (by omega) (by omega)))
    have r0_18 := Lib.hid (r0_0.out.below BW_18.out)
    have r1_18 := Lib.hid (r1_0.out.below BW_18.out)
    have E_18 := Lib.hid (E_17.out.kept k18 (by omega))
    have O5_18 := Lib.hid (O5_17.out.kept k18 (by omega))
    have O9_18 := Lib.hid o18
    go_wp2_with fail
    refine (laws_heldInt64S_c _ _ _ _ _ (by omega) (by omega) (by omega) O9_18.out.ri).mono ?_
    rintro e w' ⟨rfl, rfl⟩
    obtain ⟨Ec0, Ec1, Ec2, Ec3, Ec4⟩ := E_18.out.cells
    go_wp2_with fail
    refine (laws_toEvent_c a00 a01 a02 a03 _ _ _ (z0.take len0) _ H0.out (by omega) r0_18.out).mono ?_
    rintro e w19 ⟨g19, rfl, o19, b19⟩
    clear Ec0 Ec1 Ec2 Ec3 Ec4
    have BW_19 := Lib.hid (below_step BW_18.out b19 BW_18.out.size)
    have r0_19 := Lib.hid (r0_18.out.below b19)
    have r1_19 := Lib.hid (r1_18.out.below b19)
    have E_19 := Lib.hid (E_18.out.below b19)
    have O5_19 := Lib.hid (O5_18.out.below b19)
    have O9_19 := Lib.hid (O9_18.out.below b19)
    have O19_19 := Lib.hid o19
    go_wp2_with fail
    refine (laws_toInt64SS_c _ _ _ z1 _ H1.out (by omega) HZ1 r1_19.out).mono ?_
    rintro e w20 ⟨g20, rfl, o20, b20⟩
    have BW_20 := Lib.hid (below_step BW_19.out b20 BW_19.out.size)
    have r0_20 := Lib.hid (r0_19.out.below b20)
    have r1_20 := Lib.hid (r1_19.out.below b20)
    have E_20 := Lib.hid (E_19.out.below b20)
    have O5_20 := Lib.hid (O5_19.out.below b20)
    have O9_20 := Lib.hid (O9_19.out.below b20)
    have O19_20 := Lib.hid (O19_19.out.below b20)
    have O20_20 := Lib.hid o20
    go_wp2_with fail
    refine (impl_FinishesOf_c a00 a01 a02 a03 _ _ _ (z0.take len0) _ _ _ z1 _ H0.out (by omega) O19_20.out.ri H1.out (by omega) HZ1 O20_20.out.rm).mono ?_
    rintro e w21 ⟨G21, n21, c21, rfl, L21, M21, o21, b21⟩
    have BW_21 := Lib.hid (below_step BW_20.out b21 BW_20.out.size)
    have r0_21 := Lib.hid (r0_20.out.below b21)
    have r1_21 := Lib.hid (r1_20.out.below b21)
    have E_21 := Lib.hid (E_20.out.below b21)
    have O5_21 := Lib.hid (O5_20.out.below b21)
    have O9_21 := Lib.hid (O9_20.out.below b21)
    have O19_21 := Lib.hid (O19_20.out.below b21)
    have O20_21 := Lib.hid (O20_20.out.below b21)
    have O21_21 := Lib.hid o21
    go_wp2_with fail
    refine (laws_eqInt64S_c _ _ _ _ _ _ (foV a00 a01 a02 a03 (z0.take len0) z1) _ L21.out L5.out (by omega) O21_21.out.ri O5_21.out.ri).mono ?_
    rintro e w22 ⟨rfl, b22⟩
    have BW_22 := Lib.hid (below_step BW_21.out b22 BW_21.out.size)
    have r0_22 := Lib.hid (r0_21.out.below b22)
    have r1_22 := Lib.hid (r1_21.out.below b22)
    have E_22 := Lib.hid (E_21.out.below b22)
    have O5_22 := Lib.hid (O5_21.out.below b22)
    have O9_22 := Lib.hid (O9_21.out.below b22)
    have O19_22 := Lib.hid (O19_21.out.below b22)
    have O20_22 := Lib.hid (O20_21.out.below b22)
    have O21_22 := Lib.hid (O21_21.out.below b22)
    go_wp2_with fail
    refine (laws_heldInt64S_c _ _ _ _ _ (by omega) (by omega) (by omega) O9_22.out.ri).mono ?_
    rintro e w' ⟨rfl, rfl⟩
    go_wp2_with fail
    go_ret
    exact ⟨rfl, BW_22.out⟩

set_option maxRecDepth 100000 in
theorem lifted (os : Os) (started : os.Started) (H : Type) (enc : TypeId × Value → H) :
    ReturnsInHanded {} Try.checked os 8 .any (Rows.fnExactFinishesOfSpec.pre6 enc Try.prog Try.f8 Rows.fnExactFinishesOfRow.domain false) (Rows.fnExactFinishesOfSpec.post enc Try.prog Try.f8 false true false false) := by
  refine returnsInHanded_of_change (C := Try.checked) own started (by kernel_rfl) Try.func8
    (ChangeSpec.witness6 (enc := enc) (C := Try.checked) false ⟨#[], #[.agg #[.int .i64 0, .int .i64 0, .int .i64 0, .int .i64 0, .slice none 0 0], .slice none 0 0], []⟩ 8 (by kernel_rfl) (by kernel_rfl) (by kernel_rfl) (by kernel_rfl)) ?_
  intro W base args ds gs before hval0 hW hcnd _
  have hval : ∀ (j : Nat) t v, Try.f8.params[j]? = some t → args[j]? = some v → Value.okWide Try.prog W .any base t v := hval0
  have hW' := hW
  obtain ⟨p, q, hA0, hV, rfl, hfz, hnd⟩ := hW
  have hA : DataW.TrodAll enc Try.prog W 0 (fun _ => true) true Try.f8.params.toList args.toList ds p := hA0
  rw [Try.params8] at hA hval
  obtain ⟨v0, vs0, d0, ds0, p0, q0, hargs, rfl, rfl, h0, r0⟩ := trodAll_cons hA
  obtain ⟨v1, vs1, d1, ds1, p1, q1, rfl, rfl, rfl, h1, r1⟩ := trodAll_cons r0
  obtain ⟨rfl, rfl, rfl⟩ := trodAll_nil r1
  obtain rfl : args = #[v0, v1] := by cases args; simp_all
  obtain ⟨rfl, rfl⟩ := trodVars_none hV
  have k0 := h0
  have lt0 : ∀ x ∈ p0, x.block < W.heap.size := by obtain ⟨m, hm⟩ := k0; exact DataW.trod_lt m _ _ _ hm
  obtain ⟨f00, f01, f02, f03, f04, y00, y01, y02, y03, y04, m0, rfl, t00, t01, t02, t03, t04⟩ := open_agg5 Try.underlying53 (by kernel_rfl) (by kernel_rfl) (hval 0 53 v0 rfl rfl) h0
  obtain ⟨a00, e00, -, -⟩ := DataW.trod_int Try.underlying2 t00
  obtain rfl : f00 = .int .i64 a00 := by simpa using e00
  obtain ⟨a01, e01, -, -⟩ := DataW.trod_int Try.underlying2 t01
  obtain rfl : f01 = .int .i64 a01 := by simpa using e01
  obtain ⟨a02, e02, -, -⟩ := DataW.trod_int Try.underlying2 t02
  obtain rfl : f02 = .int .i64 a02 := by simpa using e02
  obtain ⟨a03, e03, -, -⟩ := DataW.trod_int Try.underlying2 t03
  obtain rfl : f03 = .int .i64 a03 := by simpa using e03
  obtain ⟨a0, len0, cap0, z0, rfl, w0⟩ : ∃ a len cap zs, f04 = .slice a len cap ∧ IsRow .i64 W a len cap zs := by
    rcases open_ints Try.underlying22 Try.underlying2 (by kernel_rfl) t04 with ⟨hcs, _⟩ | ⟨x, l, c, zs, hcs, _, hl, hm, hz, _, hcell, hwz⟩
    · exact ⟨none, 0, 0, [], by simpa using hcs, .inl ⟨rfl, rfl, rfl, rfl⟩⟩
    · exact ⟨_, _, _, zs, by simpa using hcs, .inr ⟨_, rfl, hl, hm, by simpa using hz, hcell, hwz⟩⟩
  obtain ⟨a1, len1, cap1, rfl⟩ := okWide_slice Try.underlying54 (hval 1 54 v1 rfl rfl)
  have k1 := h1
  have lt1 : ∀ x ∈ p1, x.block < W.heap.size := by obtain ⟨m, hm⟩ := k1; exact DataW.trod_lt m _ _ _ hm
  obtain ⟨z1, w1⟩ : ∃ zs, IsMat W a1 len1 zs := by
    obtain ⟨fuel, hf⟩ := h1
    rcases Go.Deep.open_int_rows Try.underlying54 Try.underlying22 Try.underlying2 (by kernel_rfl) (by kernel_rfl) hf with ⟨hcs, _⟩ | ⟨x, l, c, A, L, C, Z, hcs, _, hl, hm, _, hrows⟩
    · simp [Value.cells] at hcs
      obtain ⟨rfl, rfl, rfl⟩ := hcs
      exact ⟨[], isMat_nil W⟩
    · simp [Value.cells] at hcs
      obtain ⟨rfl, rfl, rfl⟩ := hcs
      exact ⟨_, isMat_some hl hm hrows⟩
  clear hA0 hval0
  refine (walk a00 a01 a02 a03 a0 len0 cap0 z0 a1 len1 cap1 z1 W w0 w1).mono fun e W' ⟨he, bel⟩ => ?_
  subst he
  exact ⟨_, rfl, _, _, _, [], _, [], hW', trodAll_mk1 (shut_bool Try.underlying4 _), (trodAll_cons_mk (Below.trod laidOut (by kernel_rfl) (of_decide_eq_true (by kernel_rfl)) k0 bel lt0) (trodAll_cons_mk (Below.trod laidOut (by kernel_rfl) (of_decide_eq_true (by kernel_rfl)) k1 bel lt1) trodAll_mk0)), rfl, bel.frame _, fun h => by cases h⟩

theorem over : Rows.fnExactFinishesOfRow.holds Try.pinned (OpenSpec.ofChange Rows.fnExactFinishesOfSpec) :=
  OpenClaim.holds_of_wide 8 Try.f8 rfl rfl rfl rfl rfl rfl rfl ⟨rfl, rfl, rfl, rfl, rfl⟩ rfl rfl rfl rfl rfl (by kernel_rfl) Try.func8 (by kernel_rfl)
    (of_decide_eq_true (by kernel_rfl)) (by unfold Func.isWrapper; first | (rw [if_pos (by decide +kernel)]; kernel_rfl) | (rw [if_neg (by decide +kernel)]; exact ⟨rfl, rfl⟩))
    (fun os started H enc _ => lifted os started H enc)

/-- THE STATEMENT. -/
theorem proved : Rows.FnExactFinishesOfSaid := over
#print axioms proved
end Go.Proofs.Ythpgkngkmmameaa.fnExactFinishesOf
