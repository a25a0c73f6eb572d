/-
  The contracts of RuinChance, in the program and in the reference. Conditions: none.
-/
import Derived.Test.YtcdianhemnpmcaaPow
import Derived.Deep.RegionWith
namespace Go.Proofs.Ytcdianhemnpmcaa
open Go.RowKit
set_option linter.unusedVariables false

theorem gcdI_absI {a l : Int} (h : 0 ≤ a) : absI a = a := by unfold absI; omega
theorem gcd_dvd_l {a l : Int} (ha : 1 ≤ a) (hl : 1 ≤ l) : 1 ≤ l / gcdI a l ∧ l / gcdI a l ≤ l := by
  have h1 : 1 ≤ gcdI a l := gcd_pos (by omega)
  have h2 : gcdI a l ≤ l := gcd_le (by omega)
  constructor
  · exact (Int.le_ediv_iff_mul_le (by omega)).2 (by omega)
  · exact Int.ediv_le_self (a := l) _ (by omega)
theorem gcd_le_a {a l : Int} (ha : 1 ≤ a) : gcdI a l ≤ a := by
  unfold gcdI
  have := Nat.gcd_le_left l.toNat (show 0 < a.toNat by omega)
  omega
theorem gcd_dvd_a {a l : Int} (ha : 1 ≤ a) (hl : 1 ≤ l) : 1 ≤ a / gcdI a l ∧ a / gcdI a l ≤ a := by
  have h1 : 1 ≤ gcdI a l := gcd_pos (by omega)
  have h2 : gcdI a l ≤ a := gcd_le_a ha
  constructor
  · exact (Int.le_ediv_iff_mul_le (by omega)).2 (by omega)
  · exact Int.ediv_le_self (a := a) _ (by omega)
theorem div_le_div {a l : Int} (g : Int) (hg : 1 ≤ g) (h : l ≤ a) : l / g ≤ a / g := Int.ediv_le_ediv (by omega) h

def ruiP (a l b : Int) : Int := pI (l / gcdI a l) b
def ruiQ (a l b : Int) : Int := pI (a / gcdI a l) b
def ruiB (a l b : Int) : Bool := betB a l && inB b 1 40
def ruiN (a l b : Int) : Int := if ruiB a l b = true then (if a ≤ l then 1 else if okP (a / gcdI a l) b = true then redN (ruiP a l b) (ruiQ a l b) else 0) else 0
def ruiD (a l b : Int) : Int := if ruiB a l b = true then (if a ≤ l then 1 else if okP (a / gcdI a l) b = true then redD (ruiP a l b) (ruiQ a l b) else 0) else 0
def ruiE (a l b : Int) : Int := if ruiB a l b = true then (if a ≤ l then 0 else if okP (a / gcdI a l) b = true then redE (ruiP a l b) (ruiQ a l b) else 3) else 2
theorem cap_ok {x n : Int} (h : okP x n = true) : capP x n = pI x n := by unfold capP; rw [if_pos h]
theorem cap_no {x n : Int} (h : okP x n = false) : capP x n = 1000000001 := by unfold capP; rw [if_neg (by rw [h]; simp)]
theorem ok_le {x n : Int} (h : okP x n = true) : pI x n ≤ 1000000000 := by simpa [okP] using h
theorem ok_of {x n : Int} (h : pI x n ≤ 1000000000) : okP x n = true := by simpa [okP] using h
theorem bp_ok {x n : Int} (h : okP x n = true) : bpV x n = pI x n := by unfold bpV; rw [if_pos h]
theorem bet_iff {a l : Int} (h : betB a l = true) : 1 ≤ a ∧ a ≤ 30 ∧ 1 ≤ l ∧ l ≤ 30 := by
  simp [betB, inB] at h; omega
theorem spec_l19Whole_c (n : Int) (w : World) : Calls Try.prog 52 #[.int .i64 n] w fun e w' => e = .returned (.agg #[.int .i64 n, .int .i64 1]) ∧ Below w.heap.size w w' := by
  go_enter Try.func52, Try.ntmps52
  go_wp2_with fail
  refine bodyPost_ret (v := .agg #[.int .i64 n, .int .i64 1]) (by simp [results, Try.results52, go_sem]) rfl ?_
  exact ⟨rfl, by first | exact ((Below.refl _ _).alloc (Nat.le_refl _) _) | exact ((((Below.refl _ _).alloc (Nat.le_refl _) _)).setCell (Nat.le_refl _) _).setCell (Nat.le_refl _) _⟩
theorem impl_RuinChance_c (a l b : Int) (w : World) : Calls Try.prog 28 #[.int .i64 a, .int .i64 l, .int .i64 b] w (RR w (ruiN a l b) (ruiD a l b) (ruiE a l b)) := by
  cases h1 : betB a l
  · have HN := Lib.hid (show ruiN a l b = 0 by unfold ruiN; simp [ruiB, h1])
    have HD := Lib.hid (show ruiD a l b = 0 by unfold ruiD; simp [ruiB, h1])
    have HE := Lib.hid (show ruiE a l b = 2 by unfold ruiE; simp [ruiB, h1])
    go_enter Try.func28, Try.ntmps28
    go_wp2_with (go_at_call 45; refine (impl_isBet_c _ _ _).mono ?_; rintro e w' ⟨rfl, rfl⟩)
    refine bodyPost_ret (v := .tuple #[.agg #[.int .i64 0, .int .i64 0], .int .i64 2]) (by simp [results, Try.results28, go_sem]) rfl ?_
    rw [HN.out, HD.out, HE.out]
    exact RR.mk rfl rfl rfl ((Below.refl _ _).alloc (Nat.le_refl _) _)
  · cases h2 : inB b 1 40
    · have HN := Lib.hid (show ruiN a l b = 0 by unfold ruiN; simp [ruiB, h2])
      have HD := Lib.hid (show ruiD a l b = 0 by unfold ruiD; simp [ruiB, h2])
      have HE := Lib.hid (show ruiE a l b = 2 by unfold ruiE; simp [ruiB, h2])
      go_enter Try.func28, Try.ntmps28
      go_wp2_with (first | (go_at_call 45; refine (impl_isBet_c _ _ _).mono ?_; rintro e w' ⟨rfl, rfl⟩) | (go_at_call 55; refine (impl_isBank_c _ _).mono ?_; rintro e w' ⟨rfl, rfl⟩))
      refine bodyPost_ret (v := .tuple #[.agg #[.int .i64 0, .int .i64 0], .int .i64 2]) (by simp [results, Try.results28, go_sem]) rfl ?_
      rw [HN.out, HD.out, HE.out]
      exact RR.mk rfl rfl rfl ((Below.refl _ _).alloc (Nat.le_refl _) _)
    · have hB : ruiB a l b = true := by simp [ruiB, h1, h2]
      obtain ⟨a0, a1, l0, l1⟩ := bet_iff h1
      obtain ⟨b0, b1⟩ := inB_iff.1 h2
      by_cases hle : a ≤ l
      · have HN := Lib.hid (show ruiN a l b = 1 by unfold ruiN; rw [if_pos hB, if_pos hle])
        have HD := Lib.hid (show ruiD a l b = 1 by unfold ruiD; rw [if_pos hB, if_pos hle])
        have HE := Lib.hid (show ruiE a l b = 0 by unfold ruiE; rw [if_pos hB, if_pos hle])
        clear hB
        go_enter Try.func28, Try.ntmps28
        go_wp2_with (first | (go_at_call 45; refine (impl_isBet_c _ _ _).mono ?_; rintro e w' ⟨rfl, rfl⟩) | (go_at_call 55; refine (impl_isBank_c _ _).mono ?_; rintro e w' ⟨rfl, rfl⟩))
        refine bodyPost_ret (v := .tuple #[.agg #[.int .i64 1, .int .i64 1], .int .i64 0]) (by simp [results, Try.results28, go_sem]) rfl ?_
        rw [HN.out, HD.out, HE.out]
        exact RR.mk rfl rfl rfl (by first | exact (Below.refl _ _).alloc (Nat.le_refl _) _ | exact (((Below.refl _ _).alloc (Nat.le_refl _) _).setCell (Nat.le_refl _) _).setCell (Nat.le_refl _) _ | exact ((below_drewN ((Below.refl _ _).alloc (Nat.le_refl _) _) _).setCell (Nat.le_refl _) _).setCell (Nat.le_refl _) _ | exact below_drewN ((Below.refl _ _).alloc (Nat.le_refl _) _) _)
      · have g1 : 1 ≤ gcdI a l := gcd_pos (by omega)
        have g2 : gcdI a l ≤ l := gcd_le (by omega)
        obtain ⟨p0, p1⟩ := gcd_dvd_a (a := a) (l := l) a0 l0
        obtain ⟨p2, p3⟩ := gcd_dvd_l (a := a) (l := l) a0 l0
        have p4 : l / gcdI a l ≤ a / gcdI a l := div_le_div _ g1 (by omega)
        cases h3 : okP (a / gcdI a l) b
        · have HN := Lib.hid (show ruiN a l b = 0 by unfold ruiN; rw [if_pos hB, if_neg hle, if_neg (by rw [h3]; simp)])
          have HD := Lib.hid (show ruiD a l b = 0 by unfold ruiD; rw [if_pos hB, if_neg hle, if_neg (by rw [h3]; simp)])
          have HE := Lib.hid (show ruiE a l b = 3 by unfold ruiE; rw [if_pos hB, if_neg hle, if_neg (by rw [h3]; simp)])
          skip
          clear hB
          go_enter Try.func28, Try.ntmps28
          go_wp2_with (first | (go_at_call 45; refine (impl_isBet_c _ _ _).mono ?_; rintro e w' ⟨rfl, rfl⟩) | (go_at_call 55; refine (impl_isBank_c _ _).mono ?_; rintro e w' ⟨rfl, rfl⟩) | (go_at_call 56; refine (impl_divisorOf_c _ _ _ (by omega) (by omega) (by omega) (by omega)).mono ?_; rintro e w' ⟨rfl, q, rfl⟩) | (go_at_call 57; refine (impl_boundedPower_c _ _ _ (by omega) (by omega) (by omega) (by omega)).mono ?_; rintro e w' ⟨rfl, rfl⟩))
          refine bodyPost_ret (v := .tuple #[.agg #[.int .i64 0, .int .i64 0], .int .i64 3]) (by simp [results, Try.results28, go_sem]) rfl ?_
          rw [HN.out, HD.out, HE.out]
          exact RR.mk rfl rfl rfl (by first | exact (Below.refl _ _).alloc (Nat.le_refl _) _ | exact (((Below.refl _ _).alloc (Nat.le_refl _) _).setCell (Nat.le_refl _) _).setCell (Nat.le_refl _) _ | exact ((below_drewN ((Below.refl _ _).alloc (Nat.le_refl _) _) _).setCell (Nat.le_refl _) _).setCell (Nat.le_refl _) _ | exact below_drewN ((Below.refl _ _).alloc (Nat.le_refl _) _) _)
        · have HN := Lib.hid (show ruiN a l b = redN (ruiP a l b) (ruiQ a l b) by unfold ruiN; rw [if_pos hB, if_neg hle, if_pos h3])
          have HD := Lib.hid (show ruiD a l b = redD (ruiP a l b) (ruiQ a l b) by unfold ruiD; rw [if_pos hB, if_neg hle, if_pos h3])
          have HE := Lib.hid (show ruiE a l b = redE (ruiP a l b) (ruiQ a l b) by unfold ruiE; rw [if_pos hB, if_neg hle, if_pos h3])
          have k1 := ok_le h3
          have k2 := pI_base b (show 0 ≤ l / gcdI a l by omega) p4
          have k3 := pI_pos b p0
          have k4 := pI_pos b p2
          have h4 : okP (l / gcdI a l) b = true := ok_of (by omega)
          have v1 := bp_ok h3
          have v2 := bp_ok h4
          clear hB
          go_enter Try.func28, Try.ntmps28
          go_wp2_with (first | (go_at_call 45; refine (impl_isBet_c _ _ _).mono ?_; rintro e w' ⟨rfl, rfl⟩) | (go_at_call 55; refine (impl_isBank_c _ _).mono ?_; rintro e w' ⟨rfl, rfl⟩) | (go_at_call 56; refine (impl_divisorOf_c _ _ _ (by omega) (by omega) (by omega) (by omega)).mono ?_; rintro e w' ⟨rfl, q, rfl⟩) | (go_at_call 57; refine (impl_boundedPower_c _ _ _ (by omega) (by omega) (by omega) (by omega)).mono ?_; rintro e w' ⟨rfl, rfl⟩))
          refine (impl_reduced_c _ _ _ (by omega) (by omega) (by omega) (by omega)).mono ?_
          rintro e w1 ⟨rfl, hb1⟩
          obtain ⟨q0, q1, f0, f1, hs', hbw⟩ := ratio_block (below_drewN ((Below.refl _ _).alloc (Nat.le_refl _) _) _) (heap_alloc_new w _) hb1
          have HB := Lib.hid hbw
          clear hb1 hbw
          go_wp2_with fail
          refine bodyPost_ret (v := .tuple #[.agg #[.int .i64 (redN (ruiP a l b) (ruiQ a l b)), .int .i64 (redD (ruiP a l b) (ruiQ a l b))], .int .i64 (redE (ruiP a l b) (ruiQ a l b))]) (by simp [results, Try.results28, go_sem, q0, q1, ruiP, ruiQ]) rfl ?_
          rw [HN.out, HD.out, HE.out]
          exact RR.mk rfl rfl rfl ((HB.out.setCell (Nat.le_refl _) _).setCell (Nat.le_refl _) _)
set_option maxHeartbeats 3000000 in
theorem spec_RuinChance_c (a l b : Int) (w : World) : Calls Try.prog 27 #[.int .i64 a, .int .i64 l, .int .i64 b] w (RR w (ruiN a l b) (ruiD a l b) (ruiE a l b)) := by
  cases h1 : betB a l
  · have HN := Lib.hid (show ruiN a l b = 0 by unfold ruiN; simp [ruiB, h1])
    have HD := Lib.hid (show ruiD a l b = 0 by unfold ruiD; simp [ruiB, h1])
    have HE := Lib.hid (show ruiE a l b = 2 by unfold ruiE; simp [ruiB, h1])
    go_enter Try.func27, Try.ntmps27
    go_wp2_with (go_at_call 43; refine (spec_l33Bet_c _ _ _).mono ?_; rintro e w' ⟨rfl, rfl⟩)
    refine bodyPost_ret (v := .tuple #[.agg #[.int .i64 0, .int .i64 0], .int .i64 2]) (by simp [results, Try.results27, go_sem]) rfl ?_
    rw [HN.out, HD.out, HE.out]
    exact RR.mk rfl rfl rfl ((Below.refl _ _).alloc (Nat.le_refl _) _)
  · cases h2 : inB b 1 40
    · have HN := Lib.hid (show ruiN a l b = 0 by unfold ruiN; simp [ruiB, h2])
      have HD := Lib.hid (show ruiD a l b = 0 by unfold ruiD; simp [ruiB, h2])
      have HE := Lib.hid (show ruiE a l b = 2 by unfold ruiE; simp [ruiB, h2])
      go_enter Try.func27, Try.ntmps27
      go_wp2_with (first | (go_at_call 43; refine (spec_l33Bet_c _ _ _).mono ?_; rintro e w' ⟨rfl, rfl⟩) | (go_at_call 51; refine (spec_l33Bank_c _ _).mono ?_; rintro e w' ⟨rfl, rfl⟩))
      refine bodyPost_ret (v := .tuple #[.agg #[.int .i64 0, .int .i64 0], .int .i64 2]) (by simp [results, Try.results27, go_sem]) rfl ?_
      rw [HN.out, HD.out, HE.out]
      exact RR.mk rfl rfl rfl ((Below.refl _ _).alloc (Nat.le_refl _) _)
    · have hB : ruiB a l b = true := by simp [ruiB, h1, h2]
      obtain ⟨a0, a1, l0, l1⟩ := bet_iff h1
      obtain ⟨b0, b1⟩ := inB_iff.1 h2
      by_cases hle : a ≤ l
      · have HN := Lib.hid (show ruiN a l b = 1 by unfold ruiN; rw [if_pos hB, if_pos hle])
        have HD := Lib.hid (show ruiD a l b = 1 by unfold ruiD; rw [if_pos hB, if_pos hle])
        have HE := Lib.hid (show ruiE a l b = 0 by unfold ruiE; rw [if_pos hB, if_pos hle])
        clear hB
        go_enter Try.func27, Try.ntmps27
        go_wp2_with (first | (go_at_call 43; refine (spec_l33Bet_c _ _ _).mono ?_; rintro e w' ⟨rfl, rfl⟩) | (go_at_call 51; refine (spec_l33Bank_c _ _).mono ?_; rintro e w' ⟨rfl, rfl⟩))
        refine (spec_l19Whole_c _ _).mono ?_
        rintro e w1 ⟨rfl, hb1⟩
        obtain ⟨q0, q1, f0, f1, hs', hbw⟩ := ratio_block ((Below.refl _ _).alloc (Nat.le_refl _) _) (heap_alloc_new w _) hb1
        have HB := Lib.hid hbw
        clear hb1 hbw
        go_wp2_with fail
        refine bodyPost_ret (v := .tuple #[.agg #[.int .i64 1, .int .i64 1], .int .i64 0]) (by simp [results, Try.results27, go_sem, q0, q1]) rfl ?_
        rw [HN.out, HD.out, HE.out]
        exact RR.mk rfl rfl rfl ((HB.out.setCell (Nat.le_refl _) _).setCell (Nat.le_refl _) _)
      · have g1 : 1 ≤ gcdI a l := gcd_pos (by omega)
        have g2 : gcdI a l ≤ l := gcd_le (by omega)
        obtain ⟨p0, p1⟩ := gcd_dvd_a (a := a) (l := l) a0 l0
        obtain ⟨p2, p3⟩ := gcd_dvd_l (a := a) (l := l) a0 l0
        have p4 : l / gcdI a l ≤ a / gcdI a l := div_le_div _ g1 (by omega)
        cases h3 : okP (a / gcdI a l) b
        · have HN := Lib.hid (show ruiN a l b = 0 by unfold ruiN; rw [if_pos hB, if_neg hle, if_neg (by rw [h3]; simp)])
          have HD := Lib.hid (show ruiD a l b = 0 by unfold ruiD; rw [if_pos hB, if_neg hle, if_neg (by rw [h3]; simp)])
          have HE := Lib.hid (show ruiE a l b = 3 by unfold ruiE; rw [if_pos hB, if_neg hle, if_neg (by rw [h3]; simp)])
          have v1 := cap_no h3
          clear hB
          go_enter Try.func27, Try.ntmps27
          go_wp2_with (first | (go_at_call 43; refine (spec_l33Bet_c _ _ _).mono ?_; rintro e w' ⟨rfl, rfl⟩) | (go_at_call 51; refine (spec_l33Bank_c _ _).mono ?_; rintro e w' ⟨rfl, rfl⟩) | (go_at_call 53; refine (spec_l01Gcd_c _ _ _ _ (Nat.le_refl _) (by omega) (by omega) (by omega) (by omega)).mono ?_; rintro e w' ⟨rfl, rfl⟩) | (go_at_call 54; refine (spec_l33Power_c _ _ _ (by omega) (by omega) (by omega) (by omega)).mono ?_; rintro e w' ⟨rfl, rfl⟩))
          refine bodyPost_ret (v := .tuple #[.agg #[.int .i64 0, .int .i64 0], .int .i64 3]) (by simp [results, Try.results27, go_sem]) rfl ?_
          rw [HN.out, HD.out, HE.out]
          exact RR.mk rfl rfl rfl (by first | exact (Below.refl _ _).alloc (Nat.le_refl _) _ | exact (((Below.refl _ _).alloc (Nat.le_refl _) _).setCell (Nat.le_refl _) _).setCell (Nat.le_refl _) _ | exact ((below_drewN ((Below.refl _ _).alloc (Nat.le_refl _) _) _).setCell (Nat.le_refl _) _).setCell (Nat.le_refl _) _ | exact below_drewN ((Below.refl _ _).alloc (Nat.le_refl _) _) _)
        · have HN := Lib.hid (show ruiN a l b = redN (ruiP a l b) (ruiQ a l b) by unfold ruiN; rw [if_pos hB, if_neg hle, if_pos h3])
          have HD := Lib.hid (show ruiD a l b = redD (ruiP a l b) (ruiQ a l b) by unfold ruiD; rw [if_pos hB, if_neg hle, if_pos h3])
          have HE := Lib.hid (show ruiE a l b = redE (ruiP a l b) (ruiQ a l b) by unfold ruiE; rw [if_pos hB, if_neg hle, if_pos h3])
          have k1 := ok_le h3
          have k2 := pI_base b (show 0 ≤ l / gcdI a l by omega) p4
          have k3 := pI_pos b p0
          have k4 := pI_pos b p2
          have h4 : okP (l / gcdI a l) b = true := ok_of (by omega)
          have v1 := cap_ok h3
          have v2 := cap_ok h4
          clear hB
          go_enter Try.func27, Try.ntmps27
          go_wp2_with (first | (go_at_call 43; refine (spec_l33Bet_c _ _ _).mono ?_; rintro e w' ⟨rfl, rfl⟩) | (go_at_call 51; refine (spec_l33Bank_c _ _).mono ?_; rintro e w' ⟨rfl, rfl⟩) | (go_at_call 53; refine (spec_l01Gcd_c _ _ _ _ (Nat.le_refl _) (by omega) (by omega) (by omega) (by omega)).mono ?_; rintro e w' ⟨rfl, rfl⟩) | (go_at_call 54; refine (spec_l33Power_c _ _ _ (by omega) (by omega) (by omega) (by omega)).mono ?_; rintro e w' ⟨rfl, rfl⟩))
          have hwa : IntKind.i64.wrap (a.tdiv (gcdI a l)) = a / gcdI a l := by rw [Int.tdiv_eq_ediv_of_nonneg (by omega)]; exact IntWalk.i64_in _ (by omega)
          have hwl : IntKind.i64.wrap (l.tdiv (gcdI a l)) = l / gcdI a l := by rw [Int.tdiv_eq_ediv_of_nonneg (by omega)]; exact IntWalk.i64_in _ (by omega)
          go_region_with ((first
            | (go_at_call 54; refine (spec_l33Power_c _ _ _ (by omega) (by omega) (by omega) (by omega)).mono ?_; rintro e w' ⟨rfl, rfl⟩)
            | (go_at_call 44; refine (spec_l01Ratio_c _ _ _ (by omega) (by omega) (by omega) (by omega)).mono ?_; rintro e w1 ⟨rfl, hb1⟩; obtain ⟨q0, q1, f0, f1, hs', hbw⟩ := ratio_block (((Below.refl _ _).alloc (Nat.le_refl _) _).drew) (heap_alloc_new w _) hb1; have HB := Lib.hid hbw; clear hb1 hbw)))
          all_goals
            clear hwa hwl
            go_wp2_with fail
            refine bodyPost_ret (v := .tuple #[.agg #[.int .i64 (redN (ruiP a l b) (ruiQ a l b)), .int .i64 (redD (ruiP a l b) (ruiQ a l b))], .int .i64 (redE (ruiP a l b) (ruiQ a l b))]) (by simp [results, Try.results27, go_sem, q0, q1, ruiP, ruiQ]) rfl ?_
            rw [HN.out, HD.out, HE.out]
            exact RR.mk rfl rfl rfl ((HB.out.setCell (Nat.le_refl _) _).setCell (Nat.le_refl _) _)
end Go.Proofs.Ytcdianhemnpmcaa
