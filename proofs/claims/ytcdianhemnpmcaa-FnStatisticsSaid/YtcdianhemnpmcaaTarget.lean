/-
  The contracts of TargetChance and signedRatio. Conditions: none but those that each contract states.
-/
import Derived.Test.YtcdianhemnpmcaaRuin
namespace Go.Proofs.Ytcdianhemnpmcaa
open Go.RowKit
set_option linter.unusedVariables false

def sgP (num den : Int) : Int := if den < 0 then -num else num
def sgQ (num den : Int) : Int := if den < 0 then -den else den
theorem impl_signedRatio_c (num den : Int) (w : World) (hn0 : -4000000000000000000 ≤ num) (hn1 : num ≤ 4000000000000000000) (hd0 : ¬ den = 0) (hd1 : -4000000000 ≤ den) (hd2 : den ≤ 4000000000) :
    Calls Try.prog 61 #[.int .i64 num, .int .i64 den] w fun e w' => e = .returned (.tuple #[.agg #[.int .i64 (redN (sgP num den) (sgQ num den)), .int .i64 (redD (sgP num den) (sgQ num den))], .bool (redE (sgP num den) (sgQ num den) == 0)]) ∧ Below w.heap.size w w' := by
  by_cases hs : den < 0
  · have e1 := Lib.hid (show sgP num den = -num by simp [sgP, hs])
    have e2 := Lib.hid (show sgQ num den = -den by simp [sgQ, hs])
    rw [e1.out, e2.out]
    go_enter Try.func61, Try.ntmps61
    go_wp2_with fail
    refine (impl_reduced_c _ _ _ (by omega) (by omega) (by omega) (by omega)).mono ?_
    rintro e w1 ⟨rfl, hb1⟩
    obtain ⟨q0, q1, f0, f1, hs', hbw⟩ := ratio_block ((Below.refl _ _).alloc (Nat.le_refl _) _) (heap_alloc_new w _) hb1
    have HB := Lib.hid hbw
    clear hb1 hbw
    go_wp2_with fail
    refine bodyPost_ret (v := .tuple #[.agg #[.int .i64 (redN (-num) (-den)), .int .i64 (redD (-num) (-den))], .bool (redE (-num) (-den) == 0)]) (by simp [results, Try.results61, go_sem, q0, q1, hs']) rfl ?_
    exact ⟨rfl, by first | exact ((HB.out.setCell (Nat.le_refl _) _).setCell (Nat.le_refl _) _).alloc (by simp; omega) _ | exact ((HB.out.alloc (by omega) _).setCell (Nat.le_refl _) _).setCell (Nat.le_refl _) _ | exact (HB.out.setCell (Nat.le_refl _) _).setCell (Nat.le_refl _) _⟩
  · have e1 := Lib.hid (show sgP num den = num by simp [sgP, hs])
    have e2 := Lib.hid (show sgQ num den = den by simp [sgQ, hs])
    have hpos : 0 < den := by omega
    rw [e1.out, e2.out]
    go_enter Try.func61, Try.ntmps61
    go_wp2_with fail
    refine (impl_reduced_c _ _ _ (by omega) (by omega) (by omega) (by omega)).mono ?_
    rintro e w1 ⟨rfl, hb1⟩
    obtain ⟨q0, q1, f0, f1, hs', hbw⟩ := ratio_block ((Below.refl _ _).alloc (Nat.le_refl _) _) (heap_alloc_new w _) hb1
    have HB := Lib.hid hbw
    clear hb1 hbw
    go_wp2_with fail
    refine bodyPost_ret (v := .tuple #[.agg #[.int .i64 (redN num den), .int .i64 (redD num den)], .bool (redE num den == 0)]) (by simp [results, Try.results61, go_sem, q0, q1, hs']) rfl ?_
    exact ⟨rfl, by first | exact ((HB.out.setCell (Nat.le_refl _) _).setCell (Nat.le_refl _) _).alloc (by simp; omega) _ | exact ((HB.out.alloc (by omega) _).setCell (Nat.le_refl _) _).setCell (Nat.le_refl _) _ | exact (HB.out.setCell (Nat.le_refl _) _).setCell (Nat.le_refl _) _⟩
theorem red_no {p q : Int} (h : ¬ redE p q = 0) : redE p q = 3 ∧ redN p q = 0 ∧ redD p q = 0 := by
  unfold redE redN redD at *
  split at h
  · exact absurd rfl h
  · rename_i h1; rw [if_neg h1, if_neg h1, if_neg h1]; exact ⟨rfl, rfl, rfl⟩

def tcB (a l b t : Int) : Bool := betB a l && inB b 1 40 && inB t b 40
def tcU (a l b t : Int) : Int := pI a (t - b) * (pI a b - pI l b)
def tcW (a l t : Int) : Int := pI a t - pI l t
def tcOk (a l t : Int) : Bool := okP a t && okP l t
def tcP (a l b t : Int) : Int := sgP (tcU a l b t) (tcW a l t)
def tcQ (a l b t : Int) : Int := sgQ (tcU a l b t) (tcW a l t)
def tcN (a l b t : Int) : Int := if tcB a l b t = true then (if a = l then redN b t else if tcOk a l t = true then redN (tcP a l b t) (tcQ a l b t) else 0) else 0
def tcD (a l b t : Int) : Int := if tcB a l b t = true then (if a = l then redD b t else if tcOk a l t = true then redD (tcP a l b t) (tcQ a l b t) else 0) else 0
def tcE (a l b t : Int) : Int := if tcB a l b t = true then (if a = l then redE b t else if tcOk a l t = true then redE (tcP a l b t) (tcQ a l b t) else 3) else 2
theorem tc_bounds {a l b t : Int} (a0 : 1 ≤ a) (l0 : 1 ≤ l) (b0 : 1 ≤ b) (bt : b ≤ t) (h1 : okP a t = true) (h2 : okP l t = true) :
    1 ≤ pI a t ∧ pI a t ≤ 1000000000 ∧ 1 ≤ pI l t ∧ pI l t ≤ 1000000000 ∧ 1 ≤ pI a b ∧ pI a b ≤ 1000000000 ∧ 1 ≤ pI l b ∧ pI l b ≤ 1000000000 ∧ 1 ≤ pI a (t - b) ∧ pI a (t - b) ≤ 1000000000 ∧ okP a b = true ∧ okP l b = true ∧ okP a (t - b) = true ∧
      -1000000000000000000 ≤ tcU a l b t ∧ tcU a l b t ≤ 1000000000000000000 := by
  have k1 := ok_le h1
  have k2 := ok_le h2
  have m : ∀ (x : Int) (j k : Int), 1 ≤ x → 0 ≤ j → j ≤ k → pI x j ≤ pI x k := by
    intro x j k hx hj hjk
    have := pI_mono (x := x) (j := j.toNat) (k := k.toNat) hx (by omega)
    rwa [show ((j.toNat : Nat) : Int) = j from by omega, show ((k.toNat : Nat) : Int) = k from by omega] at this
  have m1 := m a b t a0 (by omega) bt
  have m2 := m l b t l0 (by omega) bt
  have m3 := m a (t - b) t a0 (by omega) (by omega)
  have p1 := pI_pos t a0
  have p2 := pI_pos t l0
  have p3 := pI_pos b a0
  have p4 := pI_pos b l0
  have p5 := pI_pos (t - b) a0
  refine ⟨p1, k1, p2, k2, p3, by omega, p4, by omega, p5, by omega, ok_of (by omega), ok_of (by omega), ok_of (by omega), ?_⟩
  unfold tcU
  generalize pI a (t - b) = x at *
  have hd0 : -1000000000 ≤ pI a b - pI l b := by omega
  have hd1 : pI a b - pI l b ≤ 1000000000 := by omega
  generalize pI a b - pI l b = y at *
  have c1 : x * y ≤ 1000000000 * 1000000000 := by
    rcases Int.le_total 0 y with h | h
    · exact Int.mul_le_mul (by omega) hd1 h (by omega)
    · have := Int.mul_nonneg (show 0 ≤ x by omega) (show 0 ≤ -y by omega)
      rw [Int.mul_neg] at this
      omega
  have c2 : -(1000000000 * 1000000000) ≤ x * y := by
    rcases Int.le_total 0 y with h | h
    · have := Int.mul_nonneg (show 0 ≤ x by omega) h
      omega
    · have := Int.mul_le_mul (show x ≤ 1000000000 by omega) (show -y ≤ 1000000000 by omega) (by omega) (by omega)
      rw [Int.mul_neg] at this
      omega
  omega
theorem tc_ne {a l t : Int} (a0 : 1 ≤ a) (l0 : 1 ≤ l) (t0 : 1 ≤ t) (h : ¬ a = l) : ¬ tcW a l t = 0 := by
  unfold tcW
  rcases Int.lt_or_gt_of_ne h with h | h
  · have := pI_base_lt (x := a) (y := l) (n := t) (by omega) h t0; omega
  · have := pI_base_lt (x := l) (y := a) (n := t) (by omega) h t0; omega
set_option maxHeartbeats 2000000 in
theorem impl_TargetChance_c (a l b t : Int) (w : World) : Calls Try.prog 32 #[.int .i64 a, .int .i64 l, .int .i64 b, .int .i64 t] w (RR w (tcN a l b t) (tcD a l b t) (tcE a l b t)) := by
  cases h1 : betB a l
  · skip
    have HN := Lib.hid (show tcN a l b t = 0 by unfold tcN; simp [tcB, h1])
    have HD := Lib.hid (show tcD a l b t = 0 by unfold tcD; simp [tcB, h1])
    have HE := Lib.hid (show tcE a l b t = 2 by unfold tcE; simp [tcB, h1])
    go_enter Try.func32, Try.ntmps32
    go_wp2_with (first | (go_at_call 45; refine (impl_isBet_c _ _ _).mono ?_; rintro e w' ⟨rfl, rfl⟩) | (go_at_call 55; refine (impl_isBank_c _ _).mono ?_; rintro e w' ⟨rfl, rfl⟩) | (go_at_call 60; refine (impl_within_c _ _ _ _).mono ?_; rintro e w' ⟨rfl, rfl⟩))
    refine bodyPost_ret (v := .tuple #[.agg #[.int .i64 0, .int .i64 0], .int .i64 2]) (by simp [results, Try.results32, go_sem]) rfl ?_
    rw [HN.out, HD.out, HE.out]
    exact RR.mk rfl rfl rfl (by first | exact (Below.refl _ _).alloc (Nat.le_refl _) _ | exact (((Below.refl _ _).alloc (Nat.le_refl _) _).setCell (Nat.le_refl _) _).setCell (Nat.le_refl _) _ | exact ((below_drewN ((Below.refl _ _).alloc (Nat.le_refl _) _) _).setCell (Nat.le_refl _) _).setCell (Nat.le_refl _) _ | exact below_drewN ((Below.refl _ _).alloc (Nat.le_refl _) _) _)
  cases h2 : inB b 1 40
  · skip
    have HN := Lib.hid (show tcN a l b t = 0 by unfold tcN; simp [tcB, h2])
    have HD := Lib.hid (show tcD a l b t = 0 by unfold tcD; simp [tcB, h2])
    have HE := Lib.hid (show tcE a l b t = 2 by unfold tcE; simp [tcB, h2])
    go_enter Try.func32, Try.ntmps32
    go_wp2_with (first | (go_at_call 45; refine (impl_isBet_c _ _ _).mono ?_; rintro e w' ⟨rfl, rfl⟩) | (go_at_call 55; refine (impl_isBank_c _ _).mono ?_; rintro e w' ⟨rfl, rfl⟩) | (go_at_call 60; refine (impl_within_c _ _ _ _).mono ?_; rintro e w' ⟨rfl, rfl⟩))
    refine bodyPost_ret (v := .tuple #[.agg #[.int .i64 0, .int .i64 0], .int .i64 2]) (by simp [results, Try.results32, go_sem]) rfl ?_
    rw [HN.out, HD.out, HE.out]
    exact RR.mk rfl rfl rfl (by first | exact (Below.refl _ _).alloc (Nat.le_refl _) _ | exact (((Below.refl _ _).alloc (Nat.le_refl _) _).setCell (Nat.le_refl _) _).setCell (Nat.le_refl _) _ | exact ((below_drewN ((Below.refl _ _).alloc (Nat.le_refl _) _) _).setCell (Nat.le_refl _) _).setCell (Nat.le_refl _) _ | exact below_drewN ((Below.refl _ _).alloc (Nat.le_refl _) _) _)
  obtain ⟨a0, a1, l0, l1⟩ := bet_iff h1
  obtain ⟨b0, b1⟩ := inB_iff.1 h2
  cases h3 : inB t b 40
  · skip
    have HN := Lib.hid (show tcN a l b t = 0 by unfold tcN; simp [tcB, h3])
    have HD := Lib.hid (show tcD a l b t = 0 by unfold tcD; simp [tcB, h3])
    have HE := Lib.hid (show tcE a l b t = 2 by unfold tcE; simp [tcB, h3])
    go_enter Try.func32, Try.ntmps32
    go_wp2_with (first | (go_at_call 45; refine (impl_isBet_c _ _ _).mono ?_; rintro e w' ⟨rfl, rfl⟩) | (go_at_call 55; refine (impl_isBank_c _ _).mono ?_; rintro e w' ⟨rfl, rfl⟩) | (go_at_call 60; refine (impl_within_c _ _ _ _).mono ?_; rintro e w' ⟨rfl, rfl⟩))
    refine bodyPost_ret (v := .tuple #[.agg #[.int .i64 0, .int .i64 0], .int .i64 2]) (by simp [results, Try.results32, go_sem]) rfl ?_
    rw [HN.out, HD.out, HE.out]
    exact RR.mk rfl rfl rfl (by first | exact (Below.refl _ _).alloc (Nat.le_refl _) _ | exact (((Below.refl _ _).alloc (Nat.le_refl _) _).setCell (Nat.le_refl _) _).setCell (Nat.le_refl _) _ | exact ((below_drewN ((Below.refl _ _).alloc (Nat.le_refl _) _) _).setCell (Nat.le_refl _) _).setCell (Nat.le_refl _) _ | exact below_drewN ((Below.refl _ _).alloc (Nat.le_refl _) _) _)
  obtain ⟨t0, t1⟩ := inB_iff.1 h3
  have hB := Lib.hid (show tcB a l b t = true by simp [tcB, h1, h2, h3])
  by_cases hal : a = l
  · have hbe : (a == l) = true := by simp [hal]
    have HN := Lib.hid (show tcN a l b t = redN b t by unfold tcN; rw [if_pos hB.out, if_pos hal])
    have HD := Lib.hid (show tcD a l b t = redD b t by unfold tcD; rw [if_pos hB.out, if_pos hal])
    have HE := Lib.hid (show tcE a l b t = redE b t by unfold tcE; rw [if_pos hB.out, if_pos hal])
    clear hal
    go_enter Try.func32, Try.ntmps32
    go_wp2_with (first | (go_at_call 45; refine (impl_isBet_c _ _ _).mono ?_; rintro e w' ⟨rfl, rfl⟩) | (go_at_call 55; refine (impl_isBank_c _ _).mono ?_; rintro e w' ⟨rfl, rfl⟩) | (go_at_call 60; refine (impl_within_c _ _ _ _).mono ?_; rintro e w' ⟨rfl, rfl⟩))
    refine (impl_reduced_c _ _ _ (by omega) (by omega) (by omega) (by omega)).mono ?_
    rintro e w1 ⟨rfl, hb1⟩
    obtain ⟨q0, q1, f0, f1, hs', hbw⟩ := ratio_block ((Below.refl _ _).alloc (Nat.le_refl _) _) (heap_alloc_new w _) hb1
    have HB := Lib.hid hbw
    clear hb1 hbw
    go_wp2_with fail
    refine bodyPost_ret (v := .tuple #[.agg #[.int .i64 (redN b t), .int .i64 (redD b t)], .int .i64 (redE b t)]) (by simp [results, Try.results32, go_sem, q0, q1]) rfl ?_
    rw [HN.out, HD.out, HE.out]
    exact RR.mk rfl rfl rfl ((HB.out.setCell (Nat.le_refl _) _).setCell (Nat.le_refl _) _)
  have hbe : (a == l) = false := by simp [hal]
  have hw := tc_ne a0 l0 (show 1 ≤ t by omega) hal
  have HAL := Lib.hid hal
  clear hal
  cases h5 : okP a t
  · skip
    skip
    cases h6 : okP l t
    · skip
      have HN := Lib.hid (show tcN a l b t = 0 by unfold tcN; rw [if_pos hB.out, if_neg HAL.out, if_neg (by simp [tcOk, h5])])
      have HD := Lib.hid (show tcD a l b t = 0 by unfold tcD; rw [if_pos hB.out, if_neg HAL.out, if_neg (by simp [tcOk, h5])])
      have HE := Lib.hid (show tcE a l b t = 3 by unfold tcE; rw [if_pos hB.out, if_neg HAL.out, if_neg (by simp [tcOk, h5])])
      go_enter Try.func32, Try.ntmps32
      go_wp2_with (first | (go_at_call 45; refine (impl_isBet_c _ _ _).mono ?_; rintro e w' ⟨rfl, rfl⟩) | (go_at_call 55; refine (impl_isBank_c _ _).mono ?_; rintro e w' ⟨rfl, rfl⟩) | (go_at_call 60; refine (impl_within_c _ _ _ _).mono ?_; rintro e w' ⟨rfl, rfl⟩) | (go_at_call 57; refine (impl_boundedPower_c _ _ _ (by omega) (by omega) (by omega) (by omega)).mono ?_; rintro e w' ⟨rfl, rfl⟩))
      refine bodyPost_ret (v := .tuple #[.agg #[.int .i64 0, .int .i64 0], .int .i64 3]) (by simp [results, Try.results32, go_sem]) rfl ?_
      rw [HN.out, HD.out, HE.out]
      exact RR.mk rfl rfl rfl (by first | exact (Below.refl _ _).alloc (Nat.le_refl _) _ | exact (((Below.refl _ _).alloc (Nat.le_refl _) _).setCell (Nat.le_refl _) _).setCell (Nat.le_refl _) _ | exact ((below_drewN ((Below.refl _ _).alloc (Nat.le_refl _) _) _).setCell (Nat.le_refl _) _).setCell (Nat.le_refl _) _ | exact below_drewN ((Below.refl _ _).alloc (Nat.le_refl _) _) _)
    · skip
      have HN := Lib.hid (show tcN a l b t = 0 by unfold tcN; rw [if_pos hB.out, if_neg HAL.out, if_neg (by simp [tcOk, h5])])
      have HD := Lib.hid (show tcD a l b t = 0 by unfold tcD; rw [if_pos hB.out, if_neg HAL.out, if_neg (by simp [tcOk, h5])])
      have HE := Lib.hid (show tcE a l b t = 3 by unfold tcE; rw [if_pos hB.out, if_neg HAL.out, if_neg (by simp [tcOk, h5])])
      go_enter Try.func32, Try.ntmps32
      go_wp2_with (first | (go_at_call 45; refine (impl_isBet_c _ _ _).mono ?_; rintro e w' ⟨rfl, rfl⟩) | (go_at_call 55; refine (impl_isBank_c _ _).mono ?_; rintro e w' ⟨rfl, rfl⟩) | (go_at_call 60; refine (impl_within_c _ _ _ _).mono ?_; rintro e w' ⟨rfl, rfl⟩) | (go_at_call 57; refine (impl_boundedPower_c _ _ _ (by omega) (by omega) (by omega) (by omega)).mono ?_; rintro e w' ⟨rfl, rfl⟩))
      refine bodyPost_ret (v := .tuple #[.agg #[.int .i64 0, .int .i64 0], .int .i64 3]) (by simp [results, Try.results32, go_sem]) rfl ?_
      rw [HN.out, HD.out, HE.out]
      exact RR.mk rfl rfl rfl (by first | exact (Below.refl _ _).alloc (Nat.le_refl _) _ | exact (((Below.refl _ _).alloc (Nat.le_refl _) _).setCell (Nat.le_refl _) _).setCell (Nat.le_refl _) _ | exact ((below_drewN ((Below.refl _ _).alloc (Nat.le_refl _) _) _).setCell (Nat.le_refl _) _).setCell (Nat.le_refl _) _ | exact below_drewN ((Below.refl _ _).alloc (Nat.le_refl _) _) _)
  cases h6 : okP l t
  · skip
    have HN := Lib.hid (show tcN a l b t = 0 by unfold tcN; rw [if_pos hB.out, if_neg HAL.out, if_neg (by simp [tcOk, h6])])
    have HD := Lib.hid (show tcD a l b t = 0 by unfold tcD; rw [if_pos hB.out, if_neg HAL.out, if_neg (by simp [tcOk, h6])])
    have HE := Lib.hid (show tcE a l b t = 3 by unfold tcE; rw [if_pos hB.out, if_neg HAL.out, if_neg (by simp [tcOk, h6])])
    go_enter Try.func32, Try.ntmps32
    go_wp2_with (first | (go_at_call 45; refine (impl_isBet_c _ _ _).mono ?_; rintro e w' ⟨rfl, rfl⟩) | (go_at_call 55; refine (impl_isBank_c _ _).mono ?_; rintro e w' ⟨rfl, rfl⟩) | (go_at_call 60; refine (impl_within_c _ _ _ _).mono ?_; rintro e w' ⟨rfl, rfl⟩) | (go_at_call 57; refine (impl_boundedPower_c _ _ _ (by omega) (by omega) (by omega) (by omega)).mono ?_; rintro e w' ⟨rfl, rfl⟩))
    refine bodyPost_ret (v := .tuple #[.agg #[.int .i64 0, .int .i64 0], .int .i64 3]) (by simp [results, Try.results32, go_sem]) rfl ?_
    rw [HN.out, HD.out, HE.out]
    exact RR.mk rfl rfl rfl (by first | exact (Below.refl _ _).alloc (Nat.le_refl _) _ | exact (((Below.refl _ _).alloc (Nat.le_refl _) _).setCell (Nat.le_refl _) _).setCell (Nat.le_refl _) _ | exact ((below_drewN ((Below.refl _ _).alloc (Nat.le_refl _) _) _).setCell (Nat.le_refl _) _).setCell (Nat.le_refl _) _ | exact below_drewN ((Below.refl _ _).alloc (Nat.le_refl _) _) _)
  obtain ⟨u1, u2, u3, u4, u5, u6, u7, u8, u9, u10, o1, o2, o3, n1, n2⟩ := tc_bounds a0 l0 b0 (show b ≤ t by omega) h5 h6
  have HN := Lib.hid (show tcN a l b t = redN (tcP a l b t) (tcQ a l b t) by unfold tcN; rw [if_pos hB.out, if_neg HAL.out, if_pos (by simp [tcOk, h5, h6])])
  have HD := Lib.hid (show tcD a l b t = redD (tcP a l b t) (tcQ a l b t) by unfold tcD; rw [if_pos hB.out, if_neg HAL.out, if_pos (by simp [tcOk, h5, h6])])
  have HE := Lib.hid (show tcE a l b t = redE (tcP a l b t) (tcQ a l b t) by unfold tcE; rw [if_pos hB.out, if_neg HAL.out, if_pos (by simp [tcOk, h5, h6])])
  have v1 := bp_ok h5
  have v2 := bp_ok h6
  have v3 := bp_ok o1
  have v4 := bp_ok o2
  have v5 := bp_ok o3
  unfold tcW at hw
  unfold tcU at n1 n2
  have HN' : Hid (tcN a l b t = redN (sgP (pI a (t - b) * (pI a b - pI l b)) (pI a t - pI l t)) (sgQ (pI a (t - b) * (pI a b - pI l b)) (pI a t - pI l t))) := HN.out
  have HD' : Hid (tcD a l b t = redD (sgP (pI a (t - b) * (pI a b - pI l b)) (pI a t - pI l t)) (sgQ (pI a (t - b) * (pI a b - pI l b)) (pI a t - pI l t))) := HD.out
  have HE' : Hid (tcE a l b t = redE (sgP (pI a (t - b) * (pI a b - pI l b)) (pI a t - pI l t)) (sgQ (pI a (t - b) * (pI a b - pI l b)) (pI a t - pI l t))) := HE.out
  clear HN HD HE
  by_cases hE : redE (sgP (pI a (t - b) * (pI a b - pI l b)) (pI a t - pI l t)) (sgQ (pI a (t - b) * (pI a b - pI l b)) (pI a t - pI l t)) = 0
  · have hEb : (redE (sgP (pI a (t - b) * (pI a b - pI l b)) (pI a t - pI l t)) (sgQ (pI a (t - b) * (pI a b - pI l b)) (pI a t - pI l t)) == 0) = true := by simp [hE]
    have HEE := Lib.hid hE
    clear hE
    go_enter Try.func32, Try.ntmps32
    go_wp2_with (first | (go_at_call 45; refine (impl_isBet_c _ _ _).mono ?_; rintro e w' ⟨rfl, rfl⟩) | (go_at_call 55; refine (impl_isBank_c _ _).mono ?_; rintro e w' ⟨rfl, rfl⟩) | (go_at_call 60; refine (impl_within_c _ _ _ _).mono ?_; rintro e w' ⟨rfl, rfl⟩) | (go_at_call 57; refine (impl_boundedPower_c _ _ _ (by omega) (by omega) (by omega) (by omega)).mono ?_; rintro e w' ⟨rfl, rfl⟩))
    refine (impl_signedRatio_c _ _ _ (by omega) (by omega) (by omega) (by omega) (by omega)).mono ?_
    rintro e w1 ⟨rfl, hb1⟩
    obtain ⟨q0, q1, f0, f1, hs', hbw⟩ := ratio_block ((Below.refl _ _).alloc (Nat.le_refl _) _) (heap_alloc_new w _) hb1
    have HB := Lib.hid hbw
    clear hb1 hbw
    go_wp2_with fail
    refine bodyPost_ret (v := .tuple #[.agg #[.int .i64 (redN (sgP (pI a (t - b) * (pI a b - pI l b)) (pI a t - pI l t)) (sgQ (pI a (t - b) * (pI a b - pI l b)) (pI a t - pI l t))), .int .i64 (redD (sgP (pI a (t - b) * (pI a b - pI l b)) (pI a t - pI l t)) (sgQ (pI a (t - b) * (pI a b - pI l b)) (pI a t - pI l t)))], .int .i64 0]) (by simp [results, Try.results32, go_sem, q0, q1, hs']) rfl ?_
    rw [HN'.out, HD'.out, HE'.out, HEE.out]
    exact RR.mk rfl rfl rfl (by first | exact ((HB.out.setCell (Nat.le_refl _) _).setCell (Nat.le_refl _) _).alloc (by simp; omega) _ | exact ((HB.out.alloc (by omega) _).setCell (Nat.le_refl _) _).setCell (Nat.le_refl _) _)
  · have hEb : (redE (sgP (pI a (t - b) * (pI a b - pI l b)) (pI a t - pI l t)) (sgQ (pI a (t - b) * (pI a b - pI l b)) (pI a t - pI l t)) == 0) = false := by simp [hE]
    have HEE := Lib.hid (red_no hE)
    clear hE
    go_enter Try.func32, Try.ntmps32
    go_wp2_with (first | (go_at_call 45; refine (impl_isBet_c _ _ _).mono ?_; rintro e w' ⟨rfl, rfl⟩) | (go_at_call 55; refine (impl_isBank_c _ _).mono ?_; rintro e w' ⟨rfl, rfl⟩) | (go_at_call 60; refine (impl_within_c _ _ _ _).mono ?_; rintro e w' ⟨rfl, rfl⟩) | (go_at_call 57; refine (impl_boundedPower_c _ _ _ (by omega) (by omega) (by omega) (by omega)).mono ?_; rintro e w' ⟨rfl, rfl⟩))
    refine (impl_signedRatio_c _ _ _ (by omega) (by omega) (by omega) (by omega) (by omega)).mono ?_
    rintro e w1 ⟨rfl, hb1⟩
    obtain ⟨q0, q1, f0, f1, hs', hbw⟩ := ratio_block ((Below.refl _ _).alloc (Nat.le_refl _) _) (heap_alloc_new w _) hb1
    have HB := Lib.hid hbw
    clear hb1 hbw
    go_wp2_with fail
    refine bodyPost_ret (v := .tuple #[.agg #[.int .i64 0, .int .i64 0], .int .i64 3]) (by simp [results, Try.results32, go_sem, q0, q1, hs']) rfl ?_
    rw [HN'.out, HD'.out, HE'.out, HEE.out.1, HEE.out.2.1, HEE.out.2.2]
    exact RR.mk rfl rfl rfl (by first | exact ((HB.out.setCell (Nat.le_refl _) _).setCell (Nat.le_refl _) _).alloc (by simp; omega) _ | exact ((HB.out.alloc (by omega) _).setCell (Nat.le_refl _) _).setCell (Nat.le_refl _) _)
set_option maxHeartbeats 2000000 in
theorem spec_TargetChance_c (a l b t : Int) (w : World) : Calls Try.prog 31 #[.int .i64 a, .int .i64 l, .int .i64 b, .int .i64 t] w (RR w (tcN a l b t) (tcD a l b t) (tcE a l b t)) := by
  cases h1 : betB a l
  · skip
    have HN := Lib.hid (show tcN a l b t = 0 by unfold tcN; simp [tcB, h1])
    have HD := Lib.hid (show tcD a l b t = 0 by unfold tcD; simp [tcB, h1])
    have HE := Lib.hid (show tcE a l b t = 2 by unfold tcE; simp [tcB, h1])
    go_enter Try.func31, Try.ntmps31
    go_wp2_with (first | (go_at_call 43; refine (spec_l33Bet_c _ _ _).mono ?_; rintro e w' ⟨rfl, rfl⟩) | (go_at_call 51; refine (spec_l33Bank_c _ _).mono ?_; rintro e w' ⟨rfl, rfl⟩))
    refine bodyPost_ret (v := .tuple #[.agg #[.int .i64 0, .int .i64 0], .int .i64 2]) (by simp [results, Try.results31, go_sem]) rfl ?_
    rw [HN.out, HD.out, HE.out]
    exact RR.mk rfl rfl rfl (by first | exact (Below.refl _ _).alloc (Nat.le_refl _) _ | exact (((Below.refl _ _).alloc (Nat.le_refl _) _).setCell (Nat.le_refl _) _).setCell (Nat.le_refl _) _ | exact ((below_drewN ((Below.refl _ _).alloc (Nat.le_refl _) _) _).setCell (Nat.le_refl _) _).setCell (Nat.le_refl _) _ | exact below_drewN ((Below.refl _ _).alloc (Nat.le_refl _) _) _)
  cases h2 : inB b 1 40
  · skip
    have HN := Lib.hid (show tcN a l b t = 0 by unfold tcN; simp [tcB, h2])
    have HD := Lib.hid (show tcD a l b t = 0 by unfold tcD; simp [tcB, h2])
    have HE := Lib.hid (show tcE a l b t = 2 by unfold tcE; simp [tcB, h2])
    go_enter Try.func31, Try.ntmps31
    go_wp2_with (first | (go_at_call 43; refine (spec_l33Bet_c _ _ _).mono ?_; rintro e w' ⟨rfl, rfl⟩) | (go_at_call 51; refine (spec_l33Bank_c _ _).mono ?_; rintro e w' ⟨rfl, rfl⟩))
    refine bodyPost_ret (v := .tuple #[.agg #[.int .i64 0, .int .i64 0], .int .i64 2]) (by simp [results, Try.results31, go_sem]) rfl ?_
    rw [HN.out, HD.out, HE.out]
    exact RR.mk rfl rfl rfl (by first | exact (Below.refl _ _).alloc (Nat.le_refl _) _ | exact (((Below.refl _ _).alloc (Nat.le_refl _) _).setCell (Nat.le_refl _) _).setCell (Nat.le_refl _) _ | exact ((below_drewN ((Below.refl _ _).alloc (Nat.le_refl _) _) _).setCell (Nat.le_refl _) _).setCell (Nat.le_refl _) _ | exact below_drewN ((Below.refl _ _).alloc (Nat.le_refl _) _) _)
  obtain ⟨a0, a1, l0, l1⟩ := bet_iff h1
  obtain ⟨b0, b1⟩ := inB_iff.1 h2
  cases h4 : inB t 1 40
  · have h3 : inB t b 40 = false := by rw [inB_no] at h4 ⊢; omega
    have H3 := Lib.hid h3
    clear h3
    have HN := Lib.hid (show tcN a l b t = 0 by unfold tcN; simp [tcB, H3.out])
    have HD := Lib.hid (show tcD a l b t = 0 by unfold tcD; simp [tcB, H3.out])
    have HE := Lib.hid (show tcE a l b t = 2 by unfold tcE; simp [tcB, H3.out])
    go_enter Try.func31, Try.ntmps31
    go_wp2_with (first | (go_at_call 43; refine (spec_l33Bet_c _ _ _).mono ?_; rintro e w' ⟨rfl, rfl⟩) | (go_at_call 51; refine (spec_l33Bank_c _ _).mono ?_; rintro e w' ⟨rfl, rfl⟩))
    refine bodyPost_ret (v := .tuple #[.agg #[.int .i64 0, .int .i64 0], .int .i64 2]) (by simp [results, Try.results31, go_sem]) rfl ?_
    rw [HN.out, HD.out, HE.out]
    exact RR.mk rfl rfl rfl (by first | exact (Below.refl _ _).alloc (Nat.le_refl _) _ | exact (((Below.refl _ _).alloc (Nat.le_refl _) _).setCell (Nat.le_refl _) _).setCell (Nat.le_refl _) _ | exact ((below_drewN ((Below.refl _ _).alloc (Nat.le_refl _) _) _).setCell (Nat.le_refl _) _).setCell (Nat.le_refl _) _ | exact below_drewN ((Below.refl _ _).alloc (Nat.le_refl _) _) _)
  obtain ⟨t2, t1⟩ := inB_iff.1 h4
  by_cases t0 : t < b
  · have h3 : inB t b 40 = false := by rw [inB_no]; omega
    have H3 := Lib.hid h3
    clear h3
    have HN := Lib.hid (show tcN a l b t = 0 by unfold tcN; simp [tcB, H3.out])
    have HD := Lib.hid (show tcD a l b t = 0 by unfold tcD; simp [tcB, H3.out])
    have HE := Lib.hid (show tcE a l b t = 2 by unfold tcE; simp [tcB, H3.out])
    go_enter Try.func31, Try.ntmps31
    go_wp2_with (first | (go_at_call 43; refine (spec_l33Bet_c _ _ _).mono ?_; rintro e w' ⟨rfl, rfl⟩) | (go_at_call 51; refine (spec_l33Bank_c _ _).mono ?_; rintro e w' ⟨rfl, rfl⟩))
    refine bodyPost_ret (v := .tuple #[.agg #[.int .i64 0, .int .i64 0], .int .i64 2]) (by simp [results, Try.results31, go_sem]) rfl ?_
    rw [HN.out, HD.out, HE.out]
    exact RR.mk rfl rfl rfl (by first | exact (Below.refl _ _).alloc (Nat.le_refl _) _ | exact (((Below.refl _ _).alloc (Nat.le_refl _) _).setCell (Nat.le_refl _) _).setCell (Nat.le_refl _) _ | exact ((below_drewN ((Below.refl _ _).alloc (Nat.le_refl _) _) _).setCell (Nat.le_refl _) _).setCell (Nat.le_refl _) _ | exact below_drewN ((Below.refl _ _).alloc (Nat.le_refl _) _) _)
  have h3 : inB t b 40 = true := inB_iff.2 ⟨by omega, t1⟩
  have hB := Lib.hid (show tcB a l b t = true by simp [tcB, h1, h2, h3])
  by_cases hal : a = l
  · have hbe : (a == l) = true := by simp [hal]
    have HN := Lib.hid (show tcN a l b t = redN b t by unfold tcN; rw [if_pos hB.out, if_pos hal])
    have HD := Lib.hid (show tcD a l b t = redD b t by unfold tcD; rw [if_pos hB.out, if_pos hal])
    have HE := Lib.hid (show tcE a l b t = redE b t by unfold tcE; rw [if_pos hB.out, if_pos hal])
    clear hal
    go_enter Try.func31, Try.ntmps31
    go_wp2_with (first | (go_at_call 43; refine (spec_l33Bet_c _ _ _).mono ?_; rintro e w' ⟨rfl, rfl⟩) | (go_at_call 51; refine (spec_l33Bank_c _ _).mono ?_; rintro e w' ⟨rfl, rfl⟩))
    refine (spec_l01Ratio_c _ _ _ (by omega) (by omega) (by omega) (by omega)).mono ?_
    rintro e w1 ⟨rfl, hb1⟩
    obtain ⟨q0, q1, f0, f1, hs', hbw⟩ := ratio_block ((Below.refl _ _).alloc (Nat.le_refl _) _) (heap_alloc_new w _) hb1
    have HB := Lib.hid hbw
    clear hb1 hbw
    go_wp2_with fail
    refine bodyPost_ret (v := .tuple #[.agg #[.int .i64 (redN b t), .int .i64 (redD b t)], .int .i64 (redE b t)]) (by simp [results, Try.results31, go_sem, q0, q1]) rfl ?_
    rw [HN.out, HD.out, HE.out]
    exact RR.mk rfl rfl rfl ((HB.out.setCell (Nat.le_refl _) _).setCell (Nat.le_refl _) _)
  have hbe : (a == l) = false := by simp [hal]
  have hw := tc_ne a0 l0 (show 1 ≤ t by omega) hal
  have HAL := Lib.hid hal
  clear hal
  cases h5 : okP a t
  · skip
    have v1 := cap_no h5
    cases h6 : okP l t
    · skip
      have v2 := cap_no h6
      have HN := Lib.hid (show tcN a l b t = 0 by unfold tcN; rw [if_pos hB.out, if_neg HAL.out, if_neg (by simp [tcOk, h5])])
      have HD := Lib.hid (show tcD a l b t = 0 by unfold tcD; rw [if_pos hB.out, if_neg HAL.out, if_neg (by simp [tcOk, h5])])
      have HE := Lib.hid (show tcE a l b t = 3 by unfold tcE; rw [if_pos hB.out, if_neg HAL.out, if_neg (by simp [tcOk, h5])])
      go_enter Try.func31, Try.ntmps31
      go_wp2_with (first | (go_at_call 43; refine (spec_l33Bet_c _ _ _).mono ?_; rintro e w' ⟨rfl, rfl⟩) | (go_at_call 51; refine (spec_l33Bank_c _ _).mono ?_; rintro e w' ⟨rfl, rfl⟩) | (go_at_call 54; refine (spec_l33Power_c _ _ _ (by omega) (by omega) (by omega) (by omega)).mono ?_; rintro e w' ⟨rfl, rfl⟩))
      refine bodyPost_ret (v := .tuple #[.agg #[.int .i64 0, .int .i64 0], .int .i64 3]) (by simp [results, Try.results31, go_sem]) rfl ?_
      rw [HN.out, HD.out, HE.out]
      exact RR.mk rfl rfl rfl (by first | exact (Below.refl _ _).alloc (Nat.le_refl _) _ | exact (((Below.refl _ _).alloc (Nat.le_refl _) _).setCell (Nat.le_refl _) _).setCell (Nat.le_refl _) _ | exact ((below_drewN ((Below.refl _ _).alloc (Nat.le_refl _) _) _).setCell (Nat.le_refl _) _).setCell (Nat.le_refl _) _ | exact below_drewN ((Below.refl _ _).alloc (Nat.le_refl _) _) _)
    · skip
      have v2 := cap_ok h6
      have v3 := ok_le h6
      have HN := Lib.hid (show tcN a l b t = 0 by unfold tcN; rw [if_pos hB.out, if_neg HAL.out, if_neg (by simp [tcOk, h5])])
      have HD := Lib.hid (show tcD a l b t = 0 by unfold tcD; rw [if_pos hB.out, if_neg HAL.out, if_neg (by simp [tcOk, h5])])
      have HE := Lib.hid (show tcE a l b t = 3 by unfold tcE; rw [if_pos hB.out, if_neg HAL.out, if_neg (by simp [tcOk, h5])])
      go_enter Try.func31, Try.ntmps31
      go_wp2_with (first | (go_at_call 43; refine (spec_l33Bet_c _ _ _).mono ?_; rintro e w' ⟨rfl, rfl⟩) | (go_at_call 51; refine (spec_l33Bank_c _ _).mono ?_; rintro e w' ⟨rfl, rfl⟩) | (go_at_call 54; refine (spec_l33Power_c _ _ _ (by omega) (by omega) (by omega) (by omega)).mono ?_; rintro e w' ⟨rfl, rfl⟩))
      refine bodyPost_ret (v := .tuple #[.agg #[.int .i64 0, .int .i64 0], .int .i64 3]) (by simp [results, Try.results31, go_sem]) rfl ?_
      rw [HN.out, HD.out, HE.out]
      exact RR.mk rfl rfl rfl (by first | exact (Below.refl _ _).alloc (Nat.le_refl _) _ | exact (((Below.refl _ _).alloc (Nat.le_refl _) _).setCell (Nat.le_refl _) _).setCell (Nat.le_refl _) _ | exact ((below_drewN ((Below.refl _ _).alloc (Nat.le_refl _) _) _).setCell (Nat.le_refl _) _).setCell (Nat.le_refl _) _ | exact below_drewN ((Below.refl _ _).alloc (Nat.le_refl _) _) _)
  cases h6 : okP l t
  · skip
    have v1 := cap_ok h5
    have v3 := ok_le h5
    have v2 := cap_no h6
    have HN := Lib.hid (show tcN a l b t = 0 by unfold tcN; rw [if_pos hB.out, if_neg HAL.out, if_neg (by simp [tcOk, h6])])
    have HD := Lib.hid (show tcD a l b t = 0 by unfold tcD; rw [if_pos hB.out, if_neg HAL.out, if_neg (by simp [tcOk, h6])])
    have HE := Lib.hid (show tcE a l b t = 3 by unfold tcE; rw [if_pos hB.out, if_neg HAL.out, if_neg (by simp [tcOk, h6])])
    go_enter Try.func31, Try.ntmps31
    go_wp2_with (first | (go_at_call 43; refine (spec_l33Bet_c _ _ _).mono ?_; rintro e w' ⟨rfl, rfl⟩) | (go_at_call 51; refine (spec_l33Bank_c _ _).mono ?_; rintro e w' ⟨rfl, rfl⟩) | (go_at_call 54; refine (spec_l33Power_c _ _ _ (by omega) (by omega) (by omega) (by omega)).mono ?_; rintro e w' ⟨rfl, rfl⟩))
    refine bodyPost_ret (v := .tuple #[.agg #[.int .i64 0, .int .i64 0], .int .i64 3]) (by simp [results, Try.results31, go_sem]) rfl ?_
    rw [HN.out, HD.out, HE.out]
    exact RR.mk rfl rfl rfl (by first | exact (Below.refl _ _).alloc (Nat.le_refl _) _ | exact (((Below.refl _ _).alloc (Nat.le_refl _) _).setCell (Nat.le_refl _) _).setCell (Nat.le_refl _) _ | exact ((below_drewN ((Below.refl _ _).alloc (Nat.le_refl _) _) _).setCell (Nat.le_refl _) _).setCell (Nat.le_refl _) _ | exact below_drewN ((Below.refl _ _).alloc (Nat.le_refl _) _) _)
  obtain ⟨u1, u2, u3, u4, u5, u6, u7, u8, u9, u10, o1, o2, o3, n1, n2⟩ := tc_bounds a0 l0 b0 (show b ≤ t by omega) h5 h6
  have HN := Lib.hid (show tcN a l b t = redN (tcP a l b t) (tcQ a l b t) by unfold tcN; rw [if_pos hB.out, if_neg HAL.out, if_pos (by simp [tcOk, h5, h6])])
  have HD := Lib.hid (show tcD a l b t = redD (tcP a l b t) (tcQ a l b t) by unfold tcD; rw [if_pos hB.out, if_neg HAL.out, if_pos (by simp [tcOk, h5, h6])])
  have HE := Lib.hid (show tcE a l b t = redE (tcP a l b t) (tcQ a l b t) by unfold tcE; rw [if_pos hB.out, if_neg HAL.out, if_pos (by simp [tcOk, h5, h6])])
  have v1 := cap_ok h5
  have v2 := cap_ok h6
  have v3 := cap_ok o1
  have v4 := cap_ok o2
  have v5 := cap_ok o3
  unfold tcW at hw
  have hcm : tcU a l b t = ((pI a b - pI l b) * pI a (t - b)) := Int.mul_comm _ _
  rw [hcm] at n1 n2
  have HC := Lib.hid hcm
  clear hcm
  by_cases hs : pI a t - pI l t < 0
  · have HN' : Hid (tcN a l b t = redN (-((pI a b - pI l b) * pI a (t - b))) (-(pI a t - pI l t))) := by unfold Hid; rw [HN.out]; unfold tcP tcQ sgP sgQ tcW; rw [if_pos hs, if_pos hs, HC.out]
    have HD' : Hid (tcD a l b t = redD (-((pI a b - pI l b) * pI a (t - b))) (-(pI a t - pI l t))) := by unfold Hid; rw [HD.out]; unfold tcP tcQ sgP sgQ tcW; rw [if_pos hs, if_pos hs, HC.out]
    have HE' : Hid (tcE a l b t = redE (-((pI a b - pI l b) * pI a (t - b))) (-(pI a t - pI l t))) := by unfold Hid; rw [HE.out]; unfold tcP tcQ sgP sgQ tcW; rw [if_pos hs, if_pos hs, HC.out]
    clear HN HD HE
    go_enter Try.func31, Try.ntmps31
    go_wp2_with (first | (go_at_call 43; refine (spec_l33Bet_c _ _ _).mono ?_; rintro e w' ⟨rfl, rfl⟩) | (go_at_call 51; refine (spec_l33Bank_c _ _).mono ?_; rintro e w' ⟨rfl, rfl⟩) | (go_at_call 54; refine (spec_l33Power_c _ _ _ (by omega) (by omega) (by omega) (by omega)).mono ?_; rintro e w' ⟨rfl, rfl⟩))
    refine (spec_l01Ratio_c _ _ _ (by omega) (by omega) (by omega) (by omega)).mono ?_
    rintro e w1 ⟨rfl, hb1⟩
    obtain ⟨q0, q1, f0, f1, hs', hbw⟩ := ratio_block ((Below.refl _ _).alloc (Nat.le_refl _) _) (heap_alloc_new w _) hb1
    have HB := Lib.hid hbw
    clear hb1 hbw
    go_wp2_with fail
    refine bodyPost_ret (v := .tuple #[.agg #[.int .i64 (redN (-((pI a b - pI l b) * pI a (t - b))) (-(pI a t - pI l t))), .int .i64 (redD (-((pI a b - pI l b) * pI a (t - b))) (-(pI a t - pI l t)))], .int .i64 (redE (-((pI a b - pI l b) * pI a (t - b))) (-(pI a t - pI l t)))]) (by simp [results, Try.results31, go_sem, q0, q1]) rfl ?_
    rw [HN'.out, HD'.out, HE'.out]
    exact RR.mk rfl rfl rfl ((HB.out.setCell (Nat.le_refl _) _).setCell (Nat.le_refl _) _)
  · have HN' : Hid (tcN a l b t = redN ((pI a b - pI l b) * pI a (t - b)) (pI a t - pI l t)) := by unfold Hid; rw [HN.out]; unfold tcP tcQ sgP sgQ tcW; rw [if_neg hs, if_neg hs, HC.out]
    have HD' : Hid (tcD a l b t = redD ((pI a b - pI l b) * pI a (t - b)) (pI a t - pI l t)) := by unfold Hid; rw [HD.out]; unfold tcP tcQ sgP sgQ tcW; rw [if_neg hs, if_neg hs, HC.out]
    have HE' : Hid (tcE a l b t = redE ((pI a b - pI l b) * pI a (t - b)) (pI a t - pI l t)) := by unfold Hid; rw [HE.out]; unfold tcP tcQ sgP sgQ tcW; rw [if_neg hs, if_neg hs, HC.out]
    clear HN HD HE
    have hpos : 0 < (pI a t - pI l t) := by omega
    go_enter Try.func31, Try.ntmps31
    go_wp2_with (first | (go_at_call 43; refine (spec_l33Bet_c _ _ _).mono ?_; rintro e w' ⟨rfl, rfl⟩) | (go_at_call 51; refine (spec_l33Bank_c _ _).mono ?_; rintro e w' ⟨rfl, rfl⟩) | (go_at_call 54; refine (spec_l33Power_c _ _ _ (by omega) (by omega) (by omega) (by omega)).mono ?_; rintro e w' ⟨rfl, rfl⟩))
    refine (spec_l01Ratio_c _ _ _ (by omega) (by omega) (by omega) (by omega)).mono ?_
    rintro e w1 ⟨rfl, hb1⟩
    obtain ⟨q0, q1, f0, f1, hs', hbw⟩ := ratio_block ((Below.refl _ _).alloc (Nat.le_refl _) _) (heap_alloc_new w _) hb1
    have HB := Lib.hid hbw
    clear hb1 hbw
    go_wp2_with fail
    refine bodyPost_ret (v := .tuple #[.agg #[.int .i64 (redN ((pI a b - pI l b) * pI a (t - b)) (pI a t - pI l t)), .int .i64 (redD ((pI a b - pI l b) * pI a (t - b)) (pI a t - pI l t))], .int .i64 (redE ((pI a b - pI l b) * pI a (t - b)) (pI a t - pI l t))]) (by simp [results, Try.results31, go_sem, q0, q1]) rfl ?_
    rw [HN'.out, HD'.out, HE'.out]
    exact RR.mk rfl rfl rfl ((HB.out.setCell (Nat.le_refl _) _).setCell (Nat.le_refl _) _)
end Go.Proofs.Ytcdianhemnpmcaa
