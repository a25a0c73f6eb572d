/-
  The contracts of l01Compare, compareRatios, CompareRatios. Conditions: parts of at most 1000000000 in size.
-/
import Derived.Test.YthpgkngkmmameaaRatOps
import Derived.Outline
namespace Go.Proofs.Ythpgkngkmmameaa
open Go.RowKit
set_option linter.unusedVariables false
def cmpI (x y : Int) : Int := if x < y then -1 else if y < x then 1 else 0
/-- Small parts. -/
structure Sm (n d : Int) : Prop where
  n0 : -1000000000 ≤ n
  n1 : n ≤ 1000000000
  d0 : 1 ≤ d
  d1 : d ≤ 1000000000
theorem Sm.of {n d : Int} (h : isR n d = true) : Sm n d := by
  obtain ⟨h1, h2, h3, h4, -⟩ := isR_iff.1 h
  exact ⟨h1, h2, h3, h4⟩
set_option maxHeartbeats 1000000 in
theorem spec_l01Compare_c (n d m c : Int) (w : World) (h1 : Sm n d) (h2 : Sm m c) : Calls Try.prog 85 #[.agg #[.int .i64 n, .int .i64 d], .agg #[.int .i64 m, .int .i64 c]] w fun e w' => e = .returned (.int .i64 (cmpI (n * c) (m * d))) ∧ Below w.heap.size w w' := by
  obtain ⟨a0, a1, b0, b1⟩ := h1
  obtain ⟨c0, c1, d0, d1⟩ := h2
  obtain ⟨p0, p1⟩ := mul_bd (x := n) (y := c) a0 a1 (by omega) d1
  obtain ⟨r0, r1⟩ := mul_bd (x := m) (y := d) c0 c1 (by omega) b1
  have k0 := R2.new w n d
  have k1 := R2.new (w.alloc (.cells #[.int .i64 n, .int .i64 d] 48 (0, 0))) m c
  have hw1 := IntWalk.i64_in (n * c) (by omega)
  have hw2 := IntWalk.i64_in (m * d) (by omega)
  have HC := Lib.hid (show cmpI (n * c) (m * d) = if n * c < m * d then -1 else if m * d < n * c then 1 else 0 from rfl)
  clear k0 k1
  rcases Int.lt_trichotomy (n * c) (m * d) with h | h | h
  · have HV := Lib.hid (show cmpI (n * c) (m * d) = -1 by unfold cmpI; rw [if_pos h])
    clear HC
    go_enter Try.func85, Try.ntmps85
    go_wp2_with fail
    go_quiet (fail)
    go_wp2_with fail
    go_ret
    exact ⟨ret_int HV.out.symm, below_drewN (((Below.refl _ _).alloc (Nat.le_refl _) _).alloc (by simp) _) _⟩
  · have HV := Lib.hid (show cmpI (n * c) (m * d) = 0 by unfold cmpI; rw [if_neg (by omega), if_neg (by omega)])
    have g1 : ¬ n * c < m * d := by omega
    have g2 : ¬ m * d < n * c := by omega
    clear HC h
    go_enter Try.func85, Try.ntmps85
    go_wp2_with fail
    go_quiet (fail)
    go_wp2_with fail
    go_ret
    exact ⟨ret_int HV.out.symm, below_drewN (((Below.refl _ _).alloc (Nat.le_refl _) _).alloc (by simp) _) _⟩
  · have HV := Lib.hid (show cmpI (n * c) (m * d) = 1 by unfold cmpI; rw [if_neg (by omega), if_pos h])
    have g1 : ¬ n * c < m * d := by omega
    clear HC
    go_enter Try.func85, Try.ntmps85
    go_wp2_with fail
    go_quiet (fail)
    go_wp2_with fail
    go_ret
    exact ⟨ret_int HV.out.symm, below_drewN (((Below.refl _ _).alloc (Nat.le_refl _) _).alloc (by simp) _) _⟩
theorem cmp_isNaN_c (x : Int) (w : World) : Calls Try.prog 180 #[.int .i64 x] w fun e w' => e = .returned (.bool false) ∧ w = w' := by
  go_enter Try.func180, Try.ntmps180
  go_wp2_with fail
  go_ret
  exact ⟨rfl, rfl⟩
theorem cmp_Compare_c (x y : Int) (w : World) : Calls Try.prog 146 #[.int .i64 x, .int .i64 y] w fun e w' => e = .returned (.int .i64 (cmpI x y)) ∧ w = w' := by
  rcases Int.lt_trichotomy x y with h | h | h
  · have HV := Lib.hid (show cmpI x y = -1 by unfold cmpI; rw [if_pos h])
    go_enter Try.func146, Try.ntmps146
    go_wp2_with (go_at_call 180; refine (cmp_isNaN_c _ _).mono ?_; rintro e w' ⟨rfl, rfl⟩)
    go_ret
    exact ⟨ret_int HV.out.symm, rfl⟩
  · have HV := Lib.hid (show cmpI x y = 0 by unfold cmpI; rw [if_neg (by omega), if_neg (by omega)])
    have g1 : ¬ x < y := by omega
    have g2 : ¬ y < x := by omega
    clear h
    go_enter Try.func146, Try.ntmps146
    go_wp2_with (go_at_call 180; refine (cmp_isNaN_c _ _).mono ?_; rintro e w' ⟨rfl, rfl⟩)
    go_ret
    exact ⟨ret_int HV.out.symm, rfl⟩
  · have HV := Lib.hid (show cmpI x y = 1 by unfold cmpI; rw [if_neg (by omega), if_pos h])
    have g1 : ¬ x < y := by omega
    go_enter Try.func146, Try.ntmps146
    go_wp2_with (go_at_call 180; refine (cmp_isNaN_c _ _).mono ?_; rintro e w' ⟨rfl, rfl⟩)
    go_ret
    exact ⟨ret_int HV.out.symm, rfl⟩
theorem impl_compareRatios_c (n d m c : Int) (w : World) (h1 : Sm n d) (h2 : Sm m c) : Calls Try.prog 88 #[.agg #[.int .i64 n, .int .i64 d], .agg #[.int .i64 m, .int .i64 c]] w fun e w' => e = .returned (.int .i64 (cmpI (n * c) (m * d))) ∧ Below w.heap.size w w' := by
  obtain ⟨a0, a1, b0, b1⟩ := h1
  obtain ⟨c0, c1, d0, d1⟩ := h2
  obtain ⟨p0, p1⟩ := mul_bd (x := n) (y := c) a0 a1 (by omega) d1
  obtain ⟨r0, r1⟩ := mul_bd (x := m) (y := d) c0 c1 (by omega) b1
  go_enter Try.func88, Try.ntmps88
  go_wp2_with (go_at_call 146; refine (cmp_Compare_c _ _ _).mono ?_; rintro e w' ⟨rfl, rfl⟩)
  go_ret
  exact ⟨rfl, ((Below.refl _ _).alloc (Nat.le_refl _) _).alloc (by simp) _⟩
theorem impl_CompareRatios_c (n d m c : Int) (w : World) (h1 : isR n d = true) (h2 : isR m c = true) : Calls Try.prog 43 #[.agg #[.int .i64 n, .int .i64 d], .agg #[.int .i64 m, .int .i64 c]] w fun e w' => e = .returned (.tuple #[.int .i64 (cmpI (n * c) (m * d)), .int .i64 0]) ∧ Below w.heap.size w w' := by
  have s1 := Sm.of h1
  have s2 := Sm.of h2
  go_enter Try.func43, Try.ntmps43
  go_wp2_with fail
  refine (impl_IsRatio_c _ _ _).mono ?_
  rintro e w1 ⟨rfl, hb1⟩
  rw [h1]
  have T0 := Lib.hid (((R2.new w n d).alloc (.cells #[.int .i64 m, .int .i64 c] 48 (0, 0))).below hb1)
  have T1 : Hid (R2 w1 (w.heap.size + 1) m c) := Lib.hid (by simpa using (R2.new (w.alloc (.cells #[.int .i64 n, .int .i64 d] 48 (0, 0))) m c).below hb1)
  have HB1 := Lib.hid (below_step (((Below.refl w.heap.size w).alloc (Nat.le_refl _) (.cells #[.int .i64 n, .int .i64 d] 48 (0, 0))).alloc (by simp) (.cells #[.int .i64 m, .int .i64 c] 48 (0, 0))) hb1 (by simp; omega))
  clear hb1
  obtain ⟨e0, e1, -, -⟩ := T0.out.cells
  obtain ⟨e2, e3, -, -⟩ := T1.out.cells
  go_wp2_with fail
  refine (impl_IsRatio_c _ _ _).mono ?_
  rintro e w2 ⟨rfl, hb2⟩
  rw [h2]
  have U0 := Lib.hid (T0.out.below hb2)
  have U1 := Lib.hid (T1.out.below hb2)
  have HB2 := Lib.hid (below_step HB1.out hb2 HB1.out.size)
  clear hb2 e0 e1 e2 e3 T0 T1 HB1
  obtain ⟨e0, e1, -, -⟩ := U0.out.cells
  obtain ⟨e2, e3, -, -⟩ := U1.out.cells
  go_wp2_with fail
  refine (impl_compareRatios_c _ _ _ _ _ s1 s2).mono ?_
  rintro e w3 ⟨rfl, hb3⟩
  go_wp2_with fail
  go_ret2
  exact ⟨rfl, below_step HB2.out hb3 HB2.out.size⟩
end Go.Proofs.Ythpgkngkmmameaa
