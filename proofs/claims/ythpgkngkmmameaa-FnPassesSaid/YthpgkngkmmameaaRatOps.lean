/-
  The contracts of AddRatios, SubtractRatios, MultiplyRatios where both are ratios. Conditions: none else.
-/
import Derived.Test.YthpgkngkmmameaaReduced
namespace Go.Proofs.Ythpgkngkmmameaa
open Go.RowKit
set_option linter.unusedVariables false
theorem mul_bd {x y : Int} (hx0 : -1000000000 ≤ x) (hx1 : x ≤ 1000000000) (hy0 : -1000000000 ≤ y) (hy1 : y ≤ 1000000000) : -1000000000000000000 ≤ x * y ∧ x * y ≤ 1000000000000000000 := by
  have h := Int.natAbs_mul x y
  have h1 : x.natAbs ≤ 1000000000 := by omega
  have h2 : y.natAbs ≤ 1000000000 := by omega
  have h3 := Nat.mul_le_mul h1 h2
  omega
/-- Block b holds the ratio x / y. -/
def R2 (w : World) (b : Nat) (x y : Int) : Prop := w.heap[b]? = some (.cells #[.int .i64 x, .int .i64 y] 48 (0, 0))
theorem R2.lt {w : World} {b : Nat} {x y : Int} (h : R2 w b x y) : b < w.heap.size := (Array.getElem?_eq_some_iff.1 h).1
theorem R2.below {w w' : World} {b : Nat} {x y : Int} (h : R2 w b x y) (hb : Below w.heap.size w w') : R2 w' b x y := (hb.block b h.lt).trans h
theorem R2.cells {w : World} {b : Nat} {x y : Int} (h : R2 w b x y) : w.cell? ⟨b, 0, none⟩ = some (.int .i64 x) ∧ w.cell? ⟨b, 1, none⟩ = some (.int .i64 y) ∧ w.frozen? ⟨b, 0, none⟩ = false ∧ w.frozen? ⟨b, 1, none⟩ = false := by
  unfold R2 at h
  refine ⟨?_, ?_, ?_, ?_⟩
  · simp [World.cell?, h]
  · simp [World.cell?, h]
  · simp [World.frozen?, h]
  · simp [World.frozen?, h]
theorem R2.alloc {w : World} {b : Nat} {x y : Int} (h : R2 w b x y) (o : Obj) : R2 (w.alloc o) b x y := h.below ((Below.refl _ _).alloc (Nat.le_refl _) o)
theorem R2.new (w : World) (x y : Int) : R2 (w.alloc (.cells #[.int .i64 x, .int .i64 y] 48 (0, 0))) w.heap.size x y := heap_alloc_new w _
set_option maxHeartbeats 2000000 in
theorem impl_MultiplyRatios_c (n d m c : Int) (w : World) (h1 : isR n d = true) (h2 : isR m c = true) :
    Calls Try.prog 159 #[.agg #[.int .i64 n, .int .i64 d], .agg #[.int .i64 m, .int .i64 c]] w (RR w (redN (n * m) (d * c)) (redD (n * m) (d * c)) (redE (n * m) (d * c))) := by
  obtain ⟨a0, a1, b0, b1, -⟩ := isR_iff.1 h1
  obtain ⟨c0, c1, d0, d1, -⟩ := isR_iff.1 h2
  obtain ⟨p0, p1⟩ := mul_bd a0 a1 c0 c1
  obtain ⟨q0, q1⟩ := mul_bd (x := d) (y := c) (by omega) b1 (by omega) d1
  have q2 : 1 ≤ d * c := by
    have := Int.mul_le_mul b0 d0 (by decide) (by omega)
    omega
  obtain ⟨u, hu⟩ : ∃ u, u = n * m := ⟨_, rfl⟩
  obtain ⟨v, hv⟩ : ∃ v, v = d * c := ⟨_, rfl⟩
  go_enter Try.func159, Try.ntmps159
  go_wp2_with fail
  refine (impl_IsRatio_c _ _ _).mono ?_
  rintro e w1 ⟨rfl, hb1⟩
  have t0 := ((R2.new w n d).alloc (.cells #[.int .i64 m, .int .i64 c] 48 (0, 0))).alloc (.cells #[.int .i64 0, .int .i64 0] 48 (0, 0))
  have t1 := (R2.new (w.alloc (.cells #[.int .i64 n, .int .i64 d] 48 (0, 0))) m c).alloc (.cells #[.int .i64 0, .int .i64 0] 48 (0, 0))
  have t2 := R2.new ((w.alloc (.cells #[.int .i64 n, .int .i64 d] 48 (0, 0))).alloc (.cells #[.int .i64 m, .int .i64 c] 48 (0, 0))) 0 0
  have T0 := Lib.hid (t0.below hb1)
  have T1 : Hid (R2 w1 (w.heap.size + 1) m c) := Lib.hid (by simpa using t1.below hb1)
  have T2 : Hid (R2 w1 (w.heap.size + 1 + 1) 0 0) := Lib.hid (by simpa using t2.below hb1)
  have HB1 := Lib.hid (below_step (((((Below.refl w.heap.size w).alloc (Nat.le_refl _) (.cells #[.int .i64 n, .int .i64 d] 48 (0, 0)))).alloc (by simp) (.cells #[.int .i64 m, .int .i64 c] 48 (0, 0))).alloc (by simp; omega) (.cells #[.int .i64 0, .int .i64 0] 48 (0, 0))) hb1 (by simp; omega))
  clear hb1 t0 t1 t2
  obtain ⟨e0, e1, -, -⟩ := T0.out.cells
  obtain ⟨e2, e3, -, -⟩ := T1.out.cells
  rw [h1]
  have HSZ := Lib.hid T2.out.lt
  go_wp2_with fail
  refine (impl_IsRatio_c _ _ _).mono ?_
  rintro e w2 ⟨rfl, hb2⟩
  have U0 := Lib.hid (T0.out.below hb2)
  have U1 := Lib.hid (T1.out.below hb2)
  have U2 := Lib.hid (T2.out.below hb2)
  have HB2 := Lib.hid (HB1.out.trans (hb2.mono HB1.out.size))
  clear hb2 e0 e1 e2 e3 T0 T1 T2 HB1 HSZ
  obtain ⟨e0, e1, -, -⟩ := U0.out.cells
  obtain ⟨e2, e3, -, -⟩ := U1.out.cells
  rw [h2]
  clear h1 h2
  go_wp2_with fail
  refine (impl_reduced_c _ _ _ (by omega) (by omega) (by omega) (by omega)).mono ?_
  rintro e w3 ⟨rfl, hb3⟩
  have V2 := Lib.hid (U2.out.below hb3)
  have HB3 := Lib.hid (HB2.out.trans (hb3.mono HB2.out.size))
  have hs3 := V2.out.lt
  clear hb3 e0 e1 e2 e3 U0 U1 U2 HB2
  obtain ⟨q0, q1, f0, f1⟩ := V2.out.cells
  go_wp2_with fail
  refine bodyPost_ret (v := .tuple #[.agg #[.int .i64 (redN (n * m) (d * c)), .int .i64 (redD (n * m) (d * c))], .int .i64 (redE (n * m) (d * c))]) (by simp [results, Try.results159, go_sem, q0, q1]) rfl ?_
  exact RR.mk rfl rfl rfl ((HB3.out.setCell (by simp; omega) _).setCell (by simp; omega) _)
set_option maxHeartbeats 2000000 in
theorem impl_AddRatios_c (n d m c : Int) (w : World) (h1 : isR n d = true) (h2 : isR m c = true) :
    Calls Try.prog 162 #[.agg #[.int .i64 n, .int .i64 d], .agg #[.int .i64 m, .int .i64 c]] w (RR w (redN (n * c + m * d) (d * c)) (redD (n * c + m * d) (d * c)) (redE (n * c + m * d) (d * c))) := by
  obtain ⟨a0, a1, b0, b1, -⟩ := isR_iff.1 h1
  obtain ⟨c0, c1, d0, d1, -⟩ := isR_iff.1 h2
  obtain ⟨p0, p1⟩ := mul_bd (x := n) (y := c) a0 a1 (by omega) d1
  obtain ⟨r0, r1⟩ := mul_bd (x := m) (y := d) c0 c1 (by omega) b1
  obtain ⟨q0, q1⟩ := mul_bd (x := d) (y := c) (by omega) b1 (by omega) d1
  have q2 : 1 ≤ d * c := by
    have := Int.mul_le_mul b0 d0 (by decide) (by omega)
    omega
  obtain ⟨u, hu⟩ : ∃ u, u = n * c + m * d := ⟨_, rfl⟩
  obtain ⟨v, hv⟩ : ∃ v, v = d * c := ⟨_, rfl⟩
  go_enter Try.func162, Try.ntmps162
  go_wp2_with fail
  refine (impl_IsRatio_c _ _ _).mono ?_
  rintro e w1 ⟨rfl, hb1⟩
  have t0 := ((R2.new w n d).alloc (.cells #[.int .i64 m, .int .i64 c] 48 (0, 0))).alloc (.cells #[.int .i64 0, .int .i64 0] 48 (0, 0))
  have t1 := (R2.new (w.alloc (.cells #[.int .i64 n, .int .i64 d] 48 (0, 0))) m c).alloc (.cells #[.int .i64 0, .int .i64 0] 48 (0, 0))
  have t2 := R2.new ((w.alloc (.cells #[.int .i64 n, .int .i64 d] 48 (0, 0))).alloc (.cells #[.int .i64 m, .int .i64 c] 48 (0, 0))) 0 0
  have T0 := Lib.hid (t0.below hb1)
  have T1 : Hid (R2 w1 (w.heap.size + 1) m c) := Lib.hid (by simpa using t1.below hb1)
  have T2 : Hid (R2 w1 (w.heap.size + 1 + 1) 0 0) := Lib.hid (by simpa using t2.below hb1)
  have HB1 := Lib.hid (below_step (((((Below.refl w.heap.size w).alloc (Nat.le_refl _) (.cells #[.int .i64 n, .int .i64 d] 48 (0, 0)))).alloc (by simp) (.cells #[.int .i64 m, .int .i64 c] 48 (0, 0))).alloc (by simp; omega) (.cells #[.int .i64 0, .int .i64 0] 48 (0, 0))) hb1 (by simp; omega))
  clear hb1 t0 t1 t2
  obtain ⟨e0, e1, -, -⟩ := T0.out.cells
  obtain ⟨e2, e3, -, -⟩ := T1.out.cells
  rw [h1]
  have HSZ := Lib.hid T2.out.lt
  go_wp2_with fail
  refine (impl_IsRatio_c _ _ _).mono ?_
  rintro e w2 ⟨rfl, hb2⟩
  have U0 := Lib.hid (T0.out.below hb2)
  have U1 := Lib.hid (T1.out.below hb2)
  have U2 := Lib.hid (T2.out.below hb2)
  have HB2 := Lib.hid (HB1.out.trans (hb2.mono HB1.out.size))
  clear hb2 e0 e1 e2 e3 T0 T1 T2 HB1 HSZ
  obtain ⟨e0, e1, -, -⟩ := U0.out.cells
  obtain ⟨e2, e3, -, -⟩ := U1.out.cells
  rw [h2]
  clear h1 h2
  go_wp2_with fail
  refine (impl_reduced_c _ _ _ (by omega) (by omega) (by omega) (by omega)).mono ?_
  rintro e w3 ⟨rfl, hb3⟩
  have V2 := Lib.hid (U2.out.below hb3)
  have HB3 := Lib.hid (HB2.out.trans (hb3.mono HB2.out.size))
  have hs3 := V2.out.lt
  clear hb3 e0 e1 e2 e3 U0 U1 U2 HB2
  obtain ⟨q0, q1, f0, f1⟩ := V2.out.cells
  go_wp2_with fail
  refine bodyPost_ret (v := .tuple #[.agg #[.int .i64 (redN (n * c + m * d) (d * c)), .int .i64 (redD (n * c + m * d) (d * c))], .int .i64 (redE (n * c + m * d) (d * c))]) (by simp [results, Try.results162, go_sem, q0, q1]) rfl ?_
  exact RR.mk rfl rfl rfl ((HB3.out.setCell (by simp; omega) _).setCell (by simp; omega) _)
set_option maxHeartbeats 2000000 in
theorem impl_SubtractRatios_c (n d m c : Int) (w : World) (h1 : isR n d = true) (h2 : isR m c = true) :
    Calls Try.prog 150 #[.agg #[.int .i64 n, .int .i64 d], .agg #[.int .i64 m, .int .i64 c]] w (RR w (redN (n * c - m * d) (d * c)) (redD (n * c - m * d) (d * c)) (redE (n * c - m * d) (d * c))) := by
  obtain ⟨a0, a1, b0, b1, -⟩ := isR_iff.1 h1
  obtain ⟨c0, c1, d0, d1, -⟩ := isR_iff.1 h2
  obtain ⟨p0, p1⟩ := mul_bd (x := n) (y := c) a0 a1 (by omega) d1
  obtain ⟨r0, r1⟩ := mul_bd (x := m) (y := d) c0 c1 (by omega) b1
  obtain ⟨q0, q1⟩ := mul_bd (x := d) (y := c) (by omega) b1 (by omega) d1
  have q2 : 1 ≤ d * c := by
    have := Int.mul_le_mul b0 d0 (by decide) (by omega)
    omega
  obtain ⟨u, hu⟩ : ∃ u, u = n * c - m * d := ⟨_, rfl⟩
  obtain ⟨v, hv⟩ : ∃ v, v = d * c := ⟨_, rfl⟩
  go_enter Try.func150, Try.ntmps150
  go_wp2_with fail
  refine (impl_IsRatio_c _ _ _).mono ?_
  rintro e w1 ⟨rfl, hb1⟩
  have t0 := ((R2.new w n d).alloc (.cells #[.int .i64 m, .int .i64 c] 48 (0, 0))).alloc (.cells #[.int .i64 0, .int .i64 0] 48 (0, 0))
  have t1 := (R2.new (w.alloc (.cells #[.int .i64 n, .int .i64 d] 48 (0, 0))) m c).alloc (.cells #[.int .i64 0, .int .i64 0] 48 (0, 0))
  have t2 := R2.new ((w.alloc (.cells #[.int .i64 n, .int .i64 d] 48 (0, 0))).alloc (.cells #[.int .i64 m, .int .i64 c] 48 (0, 0))) 0 0
  have T0 := Lib.hid (t0.below hb1)
  have T1 : Hid (R2 w1 (w.heap.size + 1) m c) := Lib.hid (by simpa using t1.below hb1)
  have T2 : Hid (R2 w1 (w.heap.size + 1 + 1) 0 0) := Lib.hid (by simpa using t2.below hb1)
  have HB1 := Lib.hid (below_step (((((Below.refl w.heap.size w).alloc (Nat.le_refl _) (.cells #[.int .i64 n, .int .i64 d] 48 (0, 0)))).alloc (by simp) (.cells #[.int .i64 m, .int .i64 c] 48 (0, 0))).alloc (by simp; omega) (.cells #[.int .i64 0, .int .i64 0] 48 (0, 0))) hb1 (by simp; omega))
  clear hb1 t0 t1 t2
  obtain ⟨e0, e1, -, -⟩ := T0.out.cells
  obtain ⟨e2, e3, -, -⟩ := T1.out.cells
  rw [h1]
  have HSZ := Lib.hid T2.out.lt
  go_wp2_with fail
  refine (impl_IsRatio_c _ _ _).mono ?_
  rintro e w2 ⟨rfl, hb2⟩
  have U0 := Lib.hid (T0.out.below hb2)
  have U1 := Lib.hid (T1.out.below hb2)
  have U2 := Lib.hid (T2.out.below hb2)
  have HB2 := Lib.hid (HB1.out.trans (hb2.mono HB1.out.size))
  clear hb2 e0 e1 e2 e3 T0 T1 T2 HB1 HSZ
  obtain ⟨e0, e1, -, -⟩ := U0.out.cells
  obtain ⟨e2, e3, -, -⟩ := U1.out.cells
  rw [h2]
  clear h1 h2
  go_wp2_with fail
  refine (impl_reduced_c _ _ _ (by omega) (by omega) (by omega) (by omega)).mono ?_
  rintro e w3 ⟨rfl, hb3⟩
  have V2 := Lib.hid (U2.out.below hb3)
  have HB3 := Lib.hid (HB2.out.trans (hb3.mono HB2.out.size))
  have hs3 := V2.out.lt
  clear hb3 e0 e1 e2 e3 U0 U1 U2 HB2
  obtain ⟨q0, q1, f0, f1⟩ := V2.out.cells
  go_wp2_with fail
  refine bodyPost_ret (v := .tuple #[.agg #[.int .i64 (redN (n * c - m * d) (d * c)), .int .i64 (redD (n * c - m * d) (d * c))], .int .i64 (redE (n * c - m * d) (d * c))]) (by simp [results, Try.results150, go_sem, q0, q1]) rfl ?_
  exact RR.mk rfl rfl rfl ((HB3.out.setCell (by simp; omega) _).setCell (by simp; omega) _)
set_option maxHeartbeats 2000000 in
theorem spec_MultiplyRatios_c (n d m c : Int) (w : World) (h1 : isR n d = true) (h2 : isR m c = true) :
    Calls Try.prog 192 #[.agg #[.int .i64 n, .int .i64 d], .agg #[.int .i64 m, .int .i64 c]] w (RR w (redN (n * m) (d * c)) (redD (n * m) (d * c)) (redE (n * m) (d * c))) := by
  obtain ⟨a0, a1, b0, b1, -⟩ := isR_iff.1 h1
  obtain ⟨c0, c1, d0, d1, -⟩ := isR_iff.1 h2
  obtain ⟨p0, p1⟩ := mul_bd a0 a1 c0 c1
  obtain ⟨q0, q1⟩ := mul_bd (x := d) (y := c) (by omega) b1 (by omega) d1
  have q2 : 1 ≤ d * c := by
    have := Int.mul_le_mul b0 d0 (by decide) (by omega)
    omega
  obtain ⟨u, hu⟩ : ∃ u, u = n * m := ⟨_, rfl⟩
  obtain ⟨v, hv⟩ : ∃ v, v = d * c := ⟨_, rfl⟩
  go_enter Try.func192, Try.ntmps192
  go_wp2_with fail
  refine (spec_IsRatio_c _ _ _).mono ?_
  rintro e w1 ⟨rfl, hb1⟩
  have t0 := ((R2.new w n d).alloc (.cells #[.int .i64 m, .int .i64 c] 48 (0, 0))).alloc (.cells #[.int .i64 0, .int .i64 0] 48 (0, 0))
  have t1 := (R2.new (w.alloc (.cells #[.int .i64 n, .int .i64 d] 48 (0, 0))) m c).alloc (.cells #[.int .i64 0, .int .i64 0] 48 (0, 0))
  have t2 := R2.new ((w.alloc (.cells #[.int .i64 n, .int .i64 d] 48 (0, 0))).alloc (.cells #[.int .i64 m, .int .i64 c] 48 (0, 0))) 0 0
  have T0 := Lib.hid (t0.below hb1)
  have T1 : Hid (R2 w1 (w.heap.size + 1) m c) := Lib.hid (by simpa using t1.below hb1)
  have T2 : Hid (R2 w1 (w.heap.size + 1 + 1) 0 0) := Lib.hid (by simpa using t2.below hb1)
  have HB1 := Lib.hid (below_step (((((Below.refl w.heap.size w).alloc (Nat.le_refl _) (.cells #[.int .i64 n, .int .i64 d] 48 (0, 0)))).alloc (by simp) (.cells #[.int .i64 m, .int .i64 c] 48 (0, 0))).alloc (by simp; omega) (.cells #[.int .i64 0, .int .i64 0] 48 (0, 0))) hb1 (by simp; omega))
  clear hb1 t0 t1 t2
  obtain ⟨e0, e1, -, -⟩ := T0.out.cells
  obtain ⟨e2, e3, -, -⟩ := T1.out.cells
  rw [h1]
  have HSZ := Lib.hid T2.out.lt
  go_wp2_with fail
  refine (spec_IsRatio_c _ _ _).mono ?_
  rintro e w2 ⟨rfl, hb2⟩
  have U0 := Lib.hid (T0.out.below hb2)
  have U1 := Lib.hid (T1.out.below hb2)
  have U2 := Lib.hid (T2.out.below hb2)
  have HB2 := Lib.hid (HB1.out.trans (hb2.mono HB1.out.size))
  clear hb2 e0 e1 e2 e3 T0 T1 T2 HB1 HSZ
  obtain ⟨e0, e1, -, -⟩ := U0.out.cells
  obtain ⟨e2, e3, -, -⟩ := U1.out.cells
  rw [h2]
  clear h1 h2
  go_wp2_with fail
  refine (spec_l01Ratio_c _ _ _ (by omega) (by omega) (by omega) (by omega)).mono ?_
  rintro e w3 ⟨rfl, hb3⟩
  have V2 := Lib.hid (U2.out.below hb3)
  have HB3 := Lib.hid (HB2.out.trans (hb3.mono HB2.out.size))
  have hs3 := V2.out.lt
  clear hb3 e0 e1 e2 e3 U0 U1 U2 HB2
  obtain ⟨q0, q1, f0, f1⟩ := V2.out.cells
  go_wp2_with fail
  refine bodyPost_ret (v := .tuple #[.agg #[.int .i64 (redN (n * m) (d * c)), .int .i64 (redD (n * m) (d * c))], .int .i64 (redE (n * m) (d * c))]) (by simp [results, Try.results192, go_sem, q0, q1]) rfl ?_
  exact RR.mk rfl rfl rfl ((HB3.out.setCell (by simp; omega) _).setCell (by simp; omega) _)
set_option maxHeartbeats 2000000 in
theorem spec_AddRatios_c (n d m c : Int) (w : World) (h1 : isR n d = true) (h2 : isR m c = true) :
    Calls Try.prog 181 #[.agg #[.int .i64 n, .int .i64 d], .agg #[.int .i64 m, .int .i64 c]] w (RR w (redN (n * c + m * d) (d * c)) (redD (n * c + m * d) (d * c)) (redE (n * c + m * d) (d * c))) := by
  obtain ⟨a0, a1, b0, b1, -⟩ := isR_iff.1 h1
  obtain ⟨c0, c1, d0, d1, -⟩ := isR_iff.1 h2
  obtain ⟨p0, p1⟩ := mul_bd (x := n) (y := c) a0 a1 (by omega) d1
  obtain ⟨r0, r1⟩ := mul_bd (x := m) (y := d) c0 c1 (by omega) b1
  obtain ⟨q0, q1⟩ := mul_bd (x := d) (y := c) (by omega) b1 (by omega) d1
  have q2 : 1 ≤ d * c := by
    have := Int.mul_le_mul b0 d0 (by decide) (by omega)
    omega
  obtain ⟨u, hu⟩ : ∃ u, u = n * c + m * d := ⟨_, rfl⟩
  obtain ⟨v, hv⟩ : ∃ v, v = d * c := ⟨_, rfl⟩
  go_enter Try.func181, Try.ntmps181
  go_wp2_with fail
  refine (spec_IsRatio_c _ _ _).mono ?_
  rintro e w1 ⟨rfl, hb1⟩
  have t0 := ((R2.new w n d).alloc (.cells #[.int .i64 m, .int .i64 c] 48 (0, 0))).alloc (.cells #[.int .i64 0, .int .i64 0] 48 (0, 0))
  have t1 := (R2.new (w.alloc (.cells #[.int .i64 n, .int .i64 d] 48 (0, 0))) m c).alloc (.cells #[.int .i64 0, .int .i64 0] 48 (0, 0))
  have t2 := R2.new ((w.alloc (.cells #[.int .i64 n, .int .i64 d] 48 (0, 0))).alloc (.cells #[.int .i64 m, .int .i64 c] 48 (0, 0))) 0 0
  have T0 := Lib.hid (t0.below hb1)
  have T1 : Hid (R2 w1 (w.heap.size + 1) m c) := Lib.hid (by simpa using t1.below hb1)
  have T2 : Hid (R2 w1 (w.heap.size + 1 + 1) 0 0) := Lib.hid (by simpa using t2.below hb1)
  have HB1 := Lib.hid (below_step (((((Below.refl w.heap.size w).alloc (Nat.le_refl _) (.cells #[.int .i64 n, .int .i64 d] 48 (0, 0)))).alloc (by simp) (.cells #[.int .i64 m, .int .i64 c] 48 (0, 0))).alloc (by simp; omega) (.cells #[.int .i64 0, .int .i64 0] 48 (0, 0))) hb1 (by simp; omega))
  clear hb1 t0 t1 t2
  obtain ⟨e0, e1, -, -⟩ := T0.out.cells
  obtain ⟨e2, e3, -, -⟩ := T1.out.cells
  rw [h1]
  have HSZ := Lib.hid T2.out.lt
  go_wp2_with fail
  refine (spec_IsRatio_c _ _ _).mono ?_
  rintro e w2 ⟨rfl, hb2⟩
  have U0 := Lib.hid (T0.out.below hb2)
  have U1 := Lib.hid (T1.out.below hb2)
  have U2 := Lib.hid (T2.out.below hb2)
  have HB2 := Lib.hid (HB1.out.trans (hb2.mono HB1.out.size))
  clear hb2 e0 e1 e2 e3 T0 T1 T2 HB1 HSZ
  obtain ⟨e0, e1, -, -⟩ := U0.out.cells
  obtain ⟨e2, e3, -, -⟩ := U1.out.cells
  rw [h2]
  clear h1 h2
  go_wp2_with fail
  refine (spec_l01Ratio_c _ _ _ (by omega) (by omega) (by omega) (by omega)).mono ?_
  rintro e w3 ⟨rfl, hb3⟩
  have V2 := Lib.hid (U2.out.below hb3)
  have HB3 := Lib.hid (HB2.out.trans (hb3.mono HB2.out.size))
  have hs3 := V2.out.lt
  clear hb3 e0 e1 e2 e3 U0 U1 U2 HB2
  obtain ⟨q0, q1, f0, f1⟩ := V2.out.cells
  go_wp2_with fail
  refine bodyPost_ret (v := .tuple #[.agg #[.int .i64 (redN (n * c + m * d) (d * c)), .int .i64 (redD (n * c + m * d) (d * c))], .int .i64 (redE (n * c + m * d) (d * c))]) (by simp [results, Try.results181, go_sem, q0, q1]) rfl ?_
  exact RR.mk rfl rfl rfl ((HB3.out.setCell (by simp; omega) _).setCell (by simp; omega) _)
end Go.Proofs.Ythpgkngkmmameaa
