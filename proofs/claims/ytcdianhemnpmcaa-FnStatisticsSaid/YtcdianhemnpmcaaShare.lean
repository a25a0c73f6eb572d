/-
  The contracts of GrowthShare, VarianceOf and the reference's MeanOf. Conditions: at most 1048576 elements.
-/
import Derived.Test.YtcdianhemnpmcaaMean
namespace Go.Proofs.Ytcdianhemnpmcaa
open Go.RowKit
set_option linter.unusedVariables false

def betB (w l : Int) : Bool := inB w 1 30 && inB l 1 30
def groN (w l : Int) : Int := if betB w l = true then redN (if l < w then w - l else 0) (w + l) else 0
def groD (w l : Int) : Int := if betB w l = true then redD (if l < w then w - l else 0) (w + l) else 0
def groE (w l : Int) : Int := if betB w l = true then redE (if l < w then w - l else 0) (w + l) else 2
def sqL (zs : List Int) : Int := zs.foldl (fun s x => s + x * x) 0
theorem sqL_step {zs : List Int} {k : Nat} {x : Int} (hx : zs[k]? = some x) : sqL (zs.take (k + 1)) = sqL (zs.take k) + x * x := by
  unfold sqL
  rw [List.take_add_one, hx, List.foldl_append]; rfl
theorem sqL_bound {zs : List Int} (h : ∀ x ∈ zs, -1000 ≤ x ∧ x ≤ 1000) (k : Nat) : 0 ≤ sqL (zs.take k) ∧ sqL (zs.take k) ≤ 1000000 * k := by
  induction k with
  | zero => simp [sqL]
  | succ k ih =>
    by_cases hk : k < zs.length
    · have hx : zs[k]? = some zs[k] := List.getElem?_eq_getElem hk
      rw [sqL_step hx]
      have hb := h zs[k] (List.getElem_mem hk)
      have h1 : 0 ≤ zs[k] * zs[k] := by
        rcases Int.le_total 0 zs[k] with h0 | h0
        · exact Int.mul_nonneg h0 h0
        · have := Int.mul_nonneg (Int.neg_nonneg.2 h0) (Int.neg_nonneg.2 h0); rwa [Int.neg_mul_neg] at this
      have h2 : zs[k] * zs[k] ≤ 1000 * 1000 := by
        rcases Int.le_total 0 zs[k] with h0 | h0
        · exact Int.mul_le_mul hb.2 hb.2 h0 (by omega)
        · have := Int.mul_le_mul (show -zs[k] ≤ 1000 by omega) (show -zs[k] ≤ 1000 by omega) (by omega) (by omega)
          rwa [Int.neg_mul_neg] at this
      omega
    · rw [List.take_of_length_le (by omega)]
      rw [List.take_of_length_le (by omega)] at ih
      omega
theorem sq_bd {x : Int} (h : -1000 ≤ x ∧ x ≤ 1000) : 0 ≤ x * x ∧ x * x ≤ 1000000 := by
  have h1 : 0 ≤ x * x := by
    rcases Int.le_total 0 x with h0 | h0
    · exact Int.mul_nonneg h0 h0
    · have := Int.mul_nonneg (Int.neg_nonneg.2 h0) (Int.neg_nonneg.2 h0); rwa [Int.neg_mul_neg] at this
  have h2 : x * x ≤ 1000 * 1000 := by
    rcases Int.le_total 0 x with h0 | h0
    · exact Int.mul_le_mul h.2 h.2 h0 (by omega)
    · have := Int.mul_le_mul (show -x ≤ 1000 by omega) (show -x ≤ 1000 by omega) (by omega) (by omega)
      rwa [Int.neg_mul_neg] at this
  omega
def varP (zs : List Int) : Int := zs.length * sqL zs - sumL zs * sumL zs
def varQ (zs : List Int) : Int := (zs.length : Int) * zs.length
def varN (zs : List Int) : Int := if resB zs = true then redN (varP zs) (varQ zs) else 0
def varD (zs : List Int) : Int := if resB zs = true then redD (varP zs) (varQ zs) else 0
def varE (zs : List Int) : Int := if resB zs = true then redE (varP zs) (varQ zs) else 1
theorem sum_sq_bd {s : Int} (h0 : -100000 ≤ s) (h1 : s ≤ 100000) : 0 ≤ s * s ∧ s * s ≤ 10000000000 := by
  have a1 : 0 ≤ s * s := by
    rcases Int.le_total 0 s with h | h
    · exact Int.mul_nonneg h h
    · have := Int.mul_nonneg (Int.neg_nonneg.2 h) (Int.neg_nonneg.2 h); rwa [Int.neg_mul_neg] at this
  have a2 : s * s ≤ 100000 * 100000 := by
    rcases Int.le_total 0 s with h | h
    · exact Int.mul_le_mul h1 h1 h (by omega)
    · have := Int.mul_le_mul (show -s ≤ 100000 by omega) (show -s ≤ 100000 by omega) (by omega) (by omega)
      rwa [Int.neg_mul_neg] at this
  omega
theorem len_sq_bd {n : Nat} (h0 : 1 ≤ n) (h1 : n ≤ 100) : 1 ≤ (n : Int) * n ∧ (n : Int) * n ≤ 10000 := by
  have a1 : (1 : Int) * 1 ≤ (n : Int) * n := Int.mul_le_mul (by omega) (by omega) (by omega) (by omega)
  have a2 : (n : Int) * n ≤ 100 * 100 := Int.mul_le_mul (by omega) (by omega) (by omega) (by omega)
  omega
theorem len_sqL_bd {n : Nat} {s : Int} (h1 : n ≤ 100) (h2 : 0 ≤ s) (h3 : s ≤ 100000000) : 0 ≤ (n : Int) * s ∧ (n : Int) * s ≤ 10000000000 := by
  have a1 : 0 ≤ (n : Int) * s := Int.mul_nonneg (by omega) h2
  have a2 : (n : Int) * s ≤ 100 * 100000000 := Int.mul_le_mul (by omega) h3 h2 (by omega)
  omega
theorem impl_isBet_c (a l : Int) (w : World) : Calls Try.prog 45 #[.int .i64 a, .int .i64 l] w fun e w' => e = .returned (.bool (betB a l)) ∧ w = w' := by
  cases h1 : inB a 1 30
  · have HB := Lib.hid (show betB a l = false by simp [betB, h1])
    go_enter Try.func45, Try.ntmps45
    go_wp2_with (go_at_call 60; refine (impl_within_c _ _ _ _).mono ?_; rintro e w' ⟨rfl, rfl⟩)
    go_ret
    exact ⟨ret_bool HB.out.symm, rfl⟩
  · have HB := Lib.hid (show betB a l = inB l 1 30 by simp [betB, h1])
    go_enter Try.func45, Try.ntmps45
    go_wp2_with (go_at_call 60; refine (impl_within_c _ _ _ _).mono ?_; rintro e w' ⟨rfl, rfl⟩)
    go_ret
    exact ⟨ret_bool HB.out.symm, rfl⟩
theorem spec_l33Bet_c (a l : Int) (w : World) : Calls Try.prog 43 #[.int .i64 a, .int .i64 l] w fun e w' => e = .returned (.bool (betB a l)) ∧ w = w' := by
  cases h1 : inB a 1 30
  · have HB := Lib.hid (show betB a l = false by simp [betB, h1])
    go_enter Try.func43, Try.ntmps43
    go_wp2_with (go_at_call 68; refine (spec_l01In_c _ _ _ _).mono ?_; rintro e w' ⟨rfl, rfl⟩)
    go_ret
    exact ⟨ret_bool HB.out.symm, rfl⟩
  · have HB := Lib.hid (show betB a l = inB l 1 30 by simp [betB, h1])
    go_enter Try.func43, Try.ntmps43
    go_wp2_with (go_at_call 68; refine (spec_l01In_c _ _ _ _).mono ?_; rintro e w' ⟨rfl, rfl⟩)
    go_ret
    exact ⟨ret_bool HB.out.symm, rfl⟩
theorem impl_GrowthShare_c (a l : Int) (w : World) : Calls Try.prog 15 #[.int .i64 a, .int .i64 l] w (RR w (groN a l) (groD a l) (groE a l)) := by
  cases h : betB a l
  · skip
    have HN := Lib.hid (show groN a l = 0 by simp [groN, h])
    have HD := Lib.hid (show groD a l = 0 by simp [groD, h])
    have HE := Lib.hid (show groE a l = 2 by simp [groE, h])
    go_enter Try.func15, Try.ntmps15
    go_wp2_with (go_at_call 45; refine (impl_isBet_c _ _ _).mono ?_; rintro e w' ⟨rfl, rfl⟩)
    refine bodyPost_ret (v := .tuple #[.agg #[.int .i64 0, .int .i64 0], .int .i64 2]) (by simp [results, Try.results15, go_sem]) rfl ?_
    rw [HN.out, HD.out, HE.out]
    exact RR.mk rfl rfl rfl ((Below.refl _ _).alloc (Nat.le_refl _) _)
  · have hb : (1 ≤ a ∧ a ≤ 30) ∧ (1 ≤ l ∧ l ≤ 30) := by simpa [betB, inB] using h
    obtain ⟨⟨a0, a1⟩, l0, l1⟩ := hb
    by_cases hlt : l < a
    · have HN := Lib.hid (show groN a l = redN (a - l) (a + l) by simp [groN, h, hlt])
      have HD := Lib.hid (show groD a l = redD (a - l) (a + l) by simp [groD, h, hlt])
      have HE := Lib.hid (show groE a l = redE (a - l) (a + l) by simp [groE, h, hlt])
      have hmx : 0 < a - l := by omega
      go_enter Try.func15, Try.ntmps15
      go_wp2_with (go_at_call 45; refine (impl_isBet_c _ _ _).mono ?_; rintro e w' ⟨rfl, rfl⟩)
      refine (impl_reduced_c _ _ _ (by omega) (by omega) (by omega) (by omega)).mono ?_
      rintro e w1 ⟨rfl, hb1⟩
      obtain ⟨q0, q1, f0, f1, hs', hbw⟩ := ratio_block ((Below.refl _ _).alloc (Nat.le_refl _) _) (heap_alloc_new w _) hb1
      have HB := Lib.hid hbw
      clear hb1 hbw
      go_wp2_with fail
      refine bodyPost_ret (v := .tuple #[.agg #[.int .i64 (redN (a - l) (a + l)), .int .i64 (redD (a - l) (a + l))], .int .i64 (redE (a - l) (a + l))]) (by simp [results, Try.results15, go_sem, q0, q1]) rfl ?_
      rw [HN.out, HD.out, HE.out]
      exact RR.mk rfl rfl rfl ((HB.out.setCell (Nat.le_refl _) _).setCell (Nat.le_refl _) _)
    · have HN := Lib.hid (show groN a l = redN 0 (a + l) by simp [groN, h, hlt])
      have HD := Lib.hid (show groD a l = redD 0 (a + l) by simp [groD, h, hlt])
      have HE := Lib.hid (show groE a l = redE 0 (a + l) by simp [groE, h, hlt])
      have hmx : ¬ 0 < a - l := by omega
      go_enter Try.func15, Try.ntmps15
      go_wp2_with (go_at_call 45; refine (impl_isBet_c _ _ _).mono ?_; rintro e w' ⟨rfl, rfl⟩)
      refine (impl_reduced_c _ _ _ (by omega) (by omega) (by omega) (by omega)).mono ?_
      rintro e w1 ⟨rfl, hb1⟩
      obtain ⟨q0, q1, f0, f1, hs', hbw⟩ := ratio_block ((Below.refl _ _).alloc (Nat.le_refl _) _) (heap_alloc_new w _) hb1
      have HB := Lib.hid hbw
      clear hb1 hbw
      go_wp2_with fail
      refine bodyPost_ret (v := .tuple #[.agg #[.int .i64 (redN 0 (a + l)), .int .i64 (redD 0 (a + l))], .int .i64 (redE 0 (a + l))]) (by simp [results, Try.results15, go_sem, q0, q1]) rfl ?_
      rw [HN.out, HD.out, HE.out]
      exact RR.mk rfl rfl rfl ((HB.out.setCell (Nat.le_refl _) _).setCell (Nat.le_refl _) _)
theorem spec_GrowthShare_c (a l : Int) (w : World) : Calls Try.prog 14 #[.int .i64 a, .int .i64 l] w (RR w (groN a l) (groD a l) (groE a l)) := by
  cases h : betB a l
  · skip
    have HN := Lib.hid (show groN a l = 0 by simp [groN, h])
    have HD := Lib.hid (show groD a l = 0 by simp [groD, h])
    have HE := Lib.hid (show groE a l = 2 by simp [groE, h])
    go_enter Try.func14, Try.ntmps14
    go_wp2_with (go_at_call 43; refine (spec_l33Bet_c _ _ _).mono ?_; rintro e w' ⟨rfl, rfl⟩)
    refine bodyPost_ret (v := .tuple #[.agg #[.int .i64 0, .int .i64 0], .int .i64 2]) (by simp [results, Try.results14, go_sem]) rfl ?_
    rw [HN.out, HD.out, HE.out]
    exact RR.mk rfl rfl rfl ((Below.refl _ _).alloc (Nat.le_refl _) _)
  · have hb : (1 ≤ a ∧ a ≤ 30) ∧ (1 ≤ l ∧ l ≤ 30) := by simpa [betB, inB] using h
    obtain ⟨⟨a0, a1⟩, l0, l1⟩ := hb
    by_cases hlt : l < a
    · have HN := Lib.hid (show groN a l = redN (a - l) (a + l) by simp [groN, h, hlt])
      have HD := Lib.hid (show groD a l = redD (a - l) (a + l) by simp [groD, h, hlt])
      have HE := Lib.hid (show groE a l = redE (a - l) (a + l) by simp [groE, h, hlt])
      have hmx : 0 < a - l := by omega
      go_enter Try.func14, Try.ntmps14
      go_wp2_with (go_at_call 43; refine (spec_l33Bet_c _ _ _).mono ?_; rintro e w' ⟨rfl, rfl⟩)
      refine (spec_l01Ratio_c _ _ _ (by omega) (by omega) (by omega) (by omega)).mono ?_
      rintro e w1 ⟨rfl, hb1⟩
      obtain ⟨q0, q1, f0, f1, hs', hbw⟩ := ratio_block ((Below.refl _ _).alloc (Nat.le_refl _) _) (heap_alloc_new w _) hb1
      have HB := Lib.hid hbw
      clear hb1 hbw
      go_wp2_with fail
      refine bodyPost_ret (v := .tuple #[.agg #[.int .i64 (redN (a - l) (a + l)), .int .i64 (redD (a - l) (a + l))], .int .i64 (redE (a - l) (a + l))]) (by simp [results, Try.results14, go_sem, q0, q1]) rfl ?_
      rw [HN.out, HD.out, HE.out]
      exact RR.mk rfl rfl rfl ((HB.out.setCell (Nat.le_refl _) _).setCell (Nat.le_refl _) _)
    · have HN := Lib.hid (show groN a l = redN 0 (a + l) by simp [groN, h, hlt])
      have HD := Lib.hid (show groD a l = redD 0 (a + l) by simp [groD, h, hlt])
      have HE := Lib.hid (show groE a l = redE 0 (a + l) by simp [groE, h, hlt])
      have hmx : ¬ 0 < a - l := by omega
      go_enter Try.func14, Try.ntmps14
      go_wp2_with (go_at_call 43; refine (spec_l33Bet_c _ _ _).mono ?_; rintro e w' ⟨rfl, rfl⟩)
      refine (spec_l01Ratio_c _ _ _ (by omega) (by omega) (by omega) (by omega)).mono ?_
      rintro e w1 ⟨rfl, hb1⟩
      obtain ⟨q0, q1, f0, f1, hs', hbw⟩ := ratio_block ((Below.refl _ _).alloc (Nat.le_refl _) _) (heap_alloc_new w _) hb1
      have HB := Lib.hid hbw
      clear hb1 hbw
      go_wp2_with fail
      refine bodyPost_ret (v := .tuple #[.agg #[.int .i64 (redN 0 (a + l)), .int .i64 (redD 0 (a + l))], .int .i64 (redE 0 (a + l))]) (by simp [results, Try.results14, go_sem, q0, q1]) rfl ?_
      rw [HN.out, HD.out, HE.out]
      exact RR.mk rfl rfl rfl ((HB.out.setCell (Nat.le_refl _) _).setCell (Nat.le_refl _) _)
theorem spec_MeanOf_c (A : Option Addr) (n c : Nat) (zs : List Int) (w : World) (hn : zs.length = n) (hm : n ≤ 1048576) (hr : RI w A zs) :
    Calls Try.prog 29 #[.slice A n c] w (RR w (meanN zs) (meanD zs) (meanE zs)) := by
  subst hn
  cases h : resB zs
  · skip
    have HN := Lib.hid (show meanN zs = 0 by simp [meanN, h])
    have HD := Lib.hid (show meanD zs = 0 by simp [meanD, h])
    have HE := Lib.hid (show meanE zs = 1 by simp [meanE, h])
    go_enter Try.func29, Try.ntmps29
    go_wp2_with (go_at_call 47; refine (spec_l33Results_c _ _ _ zs _ rfl hm (hr.alloc _)).mono ?_; rintro e w' ⟨rfl, rfl⟩)
    refine bodyPost_ret (v := .tuple #[.agg #[.int .i64 0, .int .i64 0], .int .i64 1]) (by simp [results, Try.results29, go_sem]) rfl ?_
    rw [HN.out, HD.out, HE.out]
    exact RR.mk rfl rfl rfl ((Below.refl _ _).alloc (Nat.le_refl _) _)
  · have HN := Lib.hid (show meanN zs = redN (sumL zs) zs.length by simp [meanN, h])
    have HD := Lib.hid (show meanD zs = redD (sumL zs) zs.length by simp [meanD, h])
    have HE := Lib.hid (show meanE zs = redE (sumL zs) zs.length by simp [meanE, h])
    obtain ⟨s0, s1, n0, n1⟩ := res_sum h
    have hz := Lib.hid (res_small h)
    go_enter Try.func29, Try.ntmps29
    go_wp2_with (first | (go_at_call 47; refine (spec_l33Results_c _ _ _ zs _ rfl hm (hr.alloc _)).mono ?_; rintro e w' ⟨rfl, rfl⟩) | (go_at_call 58; refine (spec_l01Sum_c _ _ _ zs _ rfl hm (hr.alloc _) hz).mono ?_; rintro e w' ⟨rfl, rfl⟩))
    refine (spec_l01Ratio_c _ _ _ (by omega) (by omega) (by omega) (by omega)).mono ?_
    rintro e w1 ⟨rfl, hb1⟩
    obtain ⟨q0, q1, f0, f1, hs', hbw⟩ := ratio_block ((Below.refl _ _).alloc (Nat.le_refl _) _) (heap_alloc_new w _) hb1
    have HB := Lib.hid hbw
    clear hb1 hbw
    go_wp2_with fail
    refine bodyPost_ret (v := .tuple #[.agg #[.int .i64 (redN (sumL zs) zs.length), .int .i64 (redD (sumL zs) zs.length)], .int .i64 (redE (sumL zs) zs.length)]) (by simp [results, Try.results29, go_sem, q0, q1]) rfl ?_
    rw [HN.out, HD.out, HE.out]
    exact RR.mk rfl rfl rfl ((HB.out.setCell (Nat.le_refl _) _).setCell (Nat.le_refl _) _)
theorem impl_VarianceOf_c (A : Option Addr) (n c : Nat) (zs : List Int) (w : World) (hn : zs.length = n) (hm : n ≤ 1048576) (hr : RI w A zs) :
    Calls Try.prog 34 #[.slice A n c] w (RR w (varN zs) (varD zs) (varE zs)) := by
  subst hn
  cases h : resB zs
  · skip
    have HN := Lib.hid (show varN zs = 0 by simp [varN, h])
    have HD := Lib.hid (show varD zs = 0 by simp [varD, h])
    have HE := Lib.hid (show varE zs = 1 by simp [varE, h])
    go_enter Try.func34, Try.ntmps34
    go_wp2_with (go_at_call 48; refine (impl_areResults_c _ _ _ zs _ rfl hm (hr.alloc _)).mono ?_; rintro e w' ⟨rfl, rfl⟩)
    refine bodyPost_ret (v := .tuple #[.agg #[.int .i64 0, .int .i64 0], .int .i64 1]) (by simp [results, Try.results34, go_sem]) rfl ?_
    rw [HN.out, HD.out, HE.out]
    exact RR.mk rfl rfl rfl ((Below.refl _ _).alloc (Nat.le_refl _) _)
  · have HN := Lib.hid (show varN zs = redN (varP zs) (varQ zs) by simp [varN, h])
    have HD := Lib.hid (show varD zs = redD (varP zs) (varQ zs) by simp [varD, h])
    have HE := Lib.hid (show varE zs = redE (varP zs) (varQ zs) by simp [varE, h])
    obtain ⟨s0, s1, n0, n1⟩ := res_sum h
    have hx1 := Lib.hid (resB_iff.1 h).2.2
    have hz := Lib.hid (res_small h)
    rcases hr.split with h0 | ⟨b, off, rfl, hb, hc⟩
    · omega
    · skip
      go_enter Try.func34, Try.ntmps34
      go_wp2_with (first | (go_at_call 48; refine (impl_areResults_c _ _ _ zs _ rfl hm (hr.alloc _)).mono ?_; rintro e w' ⟨rfl, rfl⟩) | (go_at_call 59; refine (impl_sumOf_c _ _ _ zs _ rfl hm (hr.alloc _) hz).mono ?_; rintro e w' ⟨rfl, rfl⟩))
      go_loop [6, 19] (fun s i => ∃ k : Nat, s = .int .i64 (sqL (zs.take k)) ∧ i = .int .i64 k ∧ k ≤ zs.length) (fun _ i => zs.length - (intOf i).toNat)
      case atStart => exact ⟨0, rfl, rfl, Nat.zero_le _⟩
      case round =>
        obtain ⟨k, rfl, rfl, hk⟩ := hrel
        by_cases hlt : k < zs.length
        · first
            | (exfalso; omega; done)
            | (obtain ⟨x, hx⟩ := get_some hlt
               have hcx := hc.out k x hx
               obtain ⟨x0, x1⟩ := sq_bd (hx1.out x (List.mem_of_getElem? hx))
               obtain ⟨s0, s1⟩ := sqL_bound hx1.out k
               have HS := Lib.hid (sqL_step hx)
               clear hx
               go_wp2_with fail
               go_round
               case rel => exact ⟨k + 1, by rw [HS.out], by go_num, by omega⟩
               case measure => simp [intOf]; omega)
        · have hke : k = zs.length := by omega
          subst hke
          have hq := sqL_bound hx1.out zs.length
          rw [List.take_length] at hq
          have HT := Lib.hid (List.take_length (l := zs))
          obtain ⟨q1, q2⟩ := hq
          obtain ⟨v1, v2⟩ := sum_sq_bd s0 s1
          obtain ⟨v3, v4⟩ := len_sq_bd n0 n1
          obtain ⟨v5, v6⟩ := len_sqL_bd n1 q1 (by omega)
          rw [HT.out]
          go_wp2_with fail
          refine (impl_reduced_c _ _ _ (by omega) (by omega) (by omega) (by omega)).mono ?_
          rintro e w1 ⟨rfl, hb1⟩
          obtain ⟨q0, q1, f0, f1, hs', hbw⟩ := ratio_block ((Below.refl _ _).alloc (Nat.le_refl _) _) (heap_alloc_new w _) hb1
          have HB := Lib.hid hbw
          clear hb1 hbw
          go_wp2_with fail
          refine bodyPost_ret (v := .tuple #[.agg #[.int .i64 (redN (varP zs) (varQ zs)), .int .i64 (redD (varP zs) (varQ zs))], .int .i64 (redE (varP zs) (varQ zs))]) (by simp [results, Try.results34, go_sem, q0, q1, varP, varQ]) rfl ?_
          rw [HN.out, HD.out, HE.out]
          exact RR.mk rfl rfl rfl ((HB.out.setCell (Nat.le_refl _) _).setCell (Nat.le_refl _) _)
theorem spec_VarianceOf_c (A : Option Addr) (n c : Nat) (zs : List Int) (w : World) (hn : zs.length = n) (hm : n ≤ 1048576) (hr : RI w A zs) :
    Calls Try.prog 33 #[.slice A n c] w (RR w (varN zs) (varD zs) (varE zs)) := by
  subst hn
  cases h : resB zs
  · skip
    have HN := Lib.hid (show varN zs = 0 by simp [varN, h])
    have HD := Lib.hid (show varD zs = 0 by simp [varD, h])
    have HE := Lib.hid (show varE zs = 1 by simp [varE, h])
    go_enter Try.func33, Try.ntmps33
    go_wp2_with (go_at_call 47; refine (spec_l33Results_c _ _ _ zs _ rfl hm (hr.alloc _)).mono ?_; rintro e w' ⟨rfl, rfl⟩)
    refine bodyPost_ret (v := .tuple #[.agg #[.int .i64 0, .int .i64 0], .int .i64 1]) (by simp [results, Try.results33, go_sem]) rfl ?_
    rw [HN.out, HD.out, HE.out]
    exact RR.mk rfl rfl rfl ((Below.refl _ _).alloc (Nat.le_refl _) _)
  · have HN := Lib.hid (show varN zs = redN (varP zs) (varQ zs) by simp [varN, h])
    have HD := Lib.hid (show varD zs = redD (varP zs) (varQ zs) by simp [varD, h])
    have HE := Lib.hid (show varE zs = redE (varP zs) (varQ zs) by simp [varE, h])
    obtain ⟨s0, s1, n0, n1⟩ := res_sum h
    have hx1 := Lib.hid (resB_iff.1 h).2.2
    have hz := Lib.hid (res_small h)
    rcases hr.split with h0 | ⟨b, off, rfl, hb, hc⟩
    · omega
    · skip
      go_enter Try.func33, Try.ntmps33
      go_wp2_with (first | (go_at_call 47; refine (spec_l33Results_c _ _ _ zs _ rfl hm (hr.alloc _)).mono ?_; rintro e w' ⟨rfl, rfl⟩) | (go_at_call 58; refine (spec_l01Sum_c _ _ _ zs _ rfl hm (hr.alloc _) hz).mono ?_; rintro e w' ⟨rfl, rfl⟩))
      go_loopw [5, 6] (fun s i wr => ∃ k : Nat, s = .int .i64 (sqL (zs.take k)) ∧ i = .int .i64 k ∧ k ≤ zs.length ∧ ∃ q, wr = (w.alloc (.cells #[.int .i64 0, .int .i64 0] 23)).drewN q) (fun _ i _ => zs.length - (intOf i).toNat)
      case atStart => exact ⟨0, rfl, rfl, Nat.zero_le _, 0, rfl⟩
      case round =>
        obtain ⟨k, rfl, rfl, hk, q, rfl⟩ := hrel
        by_cases hlt : k < zs.length
        · first
            | (exfalso; omega; done)
            | (obtain ⟨x, hx⟩ := get_some hlt
               have hcx := hc.out k x hx
               obtain ⟨x0, x1⟩ := sq_bd (hx1.out x (List.mem_of_getElem? hx))
               obtain ⟨s0, s1⟩ := sqL_bound hx1.out k
               have HS := Lib.hid (sqL_step hx)
               clear hx
               have hw1 := IntWalk.i64_in (x * x) (by omega)
               have hw2 := IntWalk.i64_in (sqL (zs.take k) + x * x) (by omega)
               have hk2 : (k : Int) < (zs.length : Int) := by omega
               have hk3 : 0 ≤ (k : Int) := by omega
               go_wp2_with fail
               go_quiet (fail)
               clear hw1 hw2
               go_wp2_with fail
               go_roundw
               case rel => exact ⟨k + 1, by rw [HS.out], by go_num, by omega, _, rfl⟩
               case measure => simp [intOf]; omega)
        · have hke : k = zs.length := by omega
          subst hke
          have hq := sqL_bound hx1.out zs.length
          rw [List.take_length] at hq
          have HT := Lib.hid (List.take_length (l := zs))
          obtain ⟨q1, q2⟩ := hq
          obtain ⟨v1, v2⟩ := sum_sq_bd s0 s1
          obtain ⟨v3, v4⟩ := len_sq_bd n0 n1
          obtain ⟨v5, v6⟩ := len_sqL_bd n1 q1 (by omega)
          rw [HT.out]
          go_wp2_with (go_at_call 58; refine (spec_l01Sum_c _ _ _ zs _ rfl hm ((hr.alloc _).drewN _) hz).mono ?_; rintro e w' ⟨rfl, rfl⟩)
          refine (spec_l01Ratio_c _ _ _ (by omega) (by omega) (by omega) (by omega)).mono ?_
          rintro e w1 ⟨rfl, hb1⟩
          obtain ⟨q0, q1, f0, f1, hs', hbw⟩ := ratio_block (below_drewN ((Below.refl _ _).alloc (Nat.le_refl _) _) _) (heap_alloc_new w _) hb1
          have HB := Lib.hid hbw
          clear hb1 hbw
          go_wp2_with fail
          refine bodyPost_ret (v := .tuple #[.agg #[.int .i64 (redN (varP zs) (varQ zs)), .int .i64 (redD (varP zs) (varQ zs))], .int .i64 (redE (varP zs) (varQ zs))]) (by simp [results, Try.results33, go_sem, q0, q1, varP, varQ]) rfl ?_
          rw [HN.out, HD.out, HE.out]
          exact RR.mk rfl rfl rfl ((HB.out.setCell (Nat.le_refl _) _).setCell (Nat.le_refl _) _)
end Go.Proofs.Ytcdianhemnpmcaa
