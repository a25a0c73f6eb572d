/-
  PROVED: 'FnDivided' returns true for every input and leaves its arguments as they were. Conditions: none but the statement's own.
-/
import Derived.Test.YthpgkngkmmameaaFrame
import Derived.Test.YthpgkngkmmameaaArgB
import Derived.Test.YthpgkngkmmameaaDrawDeal
import Derived.Test.YthpgkngkmmameaaDeals
import Derived.Test.YthpgkngkmmameaaDealsB
import Derived.Test.YthpgkngkmmameaaDealsC
import Derived.Test.YthpgkngkmmameaaDivLaw
import Derived.Test.YthpgkngkmmameaaLike
import Derived.Test.YthpgkngkmmameaaLawSum
namespace Go.Proofs.Ythpgkngkmmameaa.fnDivided
open Go.ChangeShapes Go.WideShapes Go.ChangeAt Go.RowKit
open Go.ChangeMaps (open_string shut_string)
set_option linter.unusedVariables false

set_option maxRecDepth 20000 in
set_option maxHeartbeats 20000000 in
/-- THE WALK. -/
theorem walk (a0 : Option Addr) (len0 cap0 : Nat) (z0 : List Int) (w : World) (w0 : IsRow .u8 w a0 len0 cap0 z0) :
    Calls Try.prog 5 #[.slice a0 len0 cap0] w fun e w' => e = .returned (.bool true) ∧ Below w.heap.size w w' := by
  have hr := isRow_br w0
  have hl := isRow_len w0
  clear w0
  generalize z0.take len0 = bs at hr hl
  by_cases hbig : 4096 < len0
  · have HB := decide_eq_true hbig
    clear hbig
    go_enter Try.func5, Try.ntmps5
    go_wp2_with fail
    refine (laws_big_c _ _ _ _).mono ?_
    rintro e w' ⟨rfl, rfl⟩
    go_wp2_with fail
    go_ret
    exact ⟨rfl, Below.refl _ _⟩
  have hm : len0 ≤ 1048576 := by omega
  have HB := decide_eq_false hbig
  clear hbig
  have HL := Lib.hid hl
  clear hl
  have b0 := Lib.hid (Below.refl w.heap.size w)
  go_enter Try.func5, Try.ntmps5
  go_wp2_with fail
  refine (laws_big_c _ _ _ _).mono ?_
  rintro e w' ⟨rfl, rfl⟩
  go_wp2_with fail
  refine (spec_DrawDivideMoney_c a0 len0 cap0 bs _ HL.out hm (hr.below b0.out)).mono ?_
  rintro e w1 ⟨u, A, n, d, ws, rfl, hwl, hwm, hri, hb1⟩
  have B1 := Lib.hid (below_step b0.out hb1 b0.out.size)
  clear hb1
  have R := hri
  clear hri
  go_wp2_with fail
  refine (impl_DivideMoney_c u A n d ws _ hwl.out hwm R.out).mono ?_
  rintro e w2 ⟨G1, n1, d1, rfl, hl1, hm1, ho1, hb2⟩
  have B2 := Lib.hid (below_step B1.out hb2 B1.out.size)
  replace R := Lib.hid (R.out.below hb2)
  clear hb2
  have R1 := Lib.hid ho1.ri
  clear ho1
  go_wp2_with fail
  refine (spec_DivideMoney_c u A n d ws _ hwl.out hwm R.out).mono ?_
  rintro e w3 ⟨G2, n2, d2, rfl, hl2, hm2, ho2, hb3⟩
  have B3 := Lib.hid (below_step B2.out hb3 B2.out.size)
  replace R := Lib.hid (R.out.below hb3)
  replace R1 := Lib.hid (R1.out.below hb3)
  clear hb3
  have R2' := Lib.hid ho2.ri
  clear ho2
  go_wp2_with fail
  refine (spec_DrawSplitBounty_c a0 len0 cap0 bs _ HL.out hm (hr.below B3.out)).mono ?_
  rintro e w4 ⟨v, k, rfl, hb4⟩
  have B4 := Lib.hid (below_step B3.out hb4 B3.out.size)
  replace R := Lib.hid (R.out.below hb4)
  replace R1 := Lib.hid (R1.out.below hb4)
  replace R2' := Lib.hid (R2'.out.below hb4)
  clear hb4
  go_wp2_with fail
  refine (impl_SplitBounty_c v k _).mono ?_
  rintro e w5 ⟨G3, n3, d3, rfl, hl3, hm3, ho3, hb5⟩
  have B5 := Lib.hid (below_step B4.out hb5 B4.out.size)
  replace R := Lib.hid (R.out.below hb5)
  replace R1 := Lib.hid (R1.out.below hb5)
  replace R2' := Lib.hid (R2'.out.below hb5)
  clear hb5
  have R3 := Lib.hid ho3.ri
  clear ho3
  go_wp2_with fail
  refine (spec_SplitBounty_c v k _).mono ?_
  rintro e w6 ⟨G4, n4, d4, rfl, hl4, hm4, ho4, hb6⟩
  have B6 := Lib.hid (below_step B5.out hb6 B5.out.size)
  replace R := Lib.hid (R.out.below hb6)
  replace R1 := Lib.hid (R1.out.below hb6)
  replace R2' := Lib.hid (R2'.out.below hb6)
  replace R3 := Lib.hid (R3.out.below hb6)
  clear hb6
  have R4 := Lib.hid ho4.ri
  clear ho4
  go_wp2_with fail
  refine (spec_DrawSavePrize_c a0 len0 cap0 bs _ HL.out hm (hr.below B6.out)).mono ?_
  rintro e w7 ⟨A', n', d', P, s, rfl, hpl, hpm, hri', hb7⟩
  have B7 := Lib.hid (below_step B6.out hb7 B6.out.size)
  replace R := Lib.hid (R.out.below hb7)
  replace R1 := Lib.hid (R1.out.below hb7)
  replace R2' := Lib.hid (R2'.out.below hb7)
  replace R3 := Lib.hid (R3.out.below hb7)
  replace R4 := Lib.hid (R4.out.below hb7)
  clear hb7
  have RP := hri'
  clear hri'
  go_wp2_with fail
  refine (impl_SavePrize_c A' n' d' P s _ hpl.out hpm RP.out).mono ?_
  rintro e w8 ⟨G5, n5, d5, rfl, hl5, hm5, ho5, hb8⟩
  have B8 := Lib.hid (below_step B7.out hb8 B7.out.size)
  replace R := Lib.hid (R.out.below hb8)
  replace R1 := Lib.hid (R1.out.below hb8)
  replace R2' := Lib.hid (R2'.out.below hb8)
  replace R3 := Lib.hid (R3.out.below hb8)
  replace R4 := Lib.hid (R4.out.below hb8)
  replace RP := Lib.hid (RP.out.below hb8)
  clear hb8
  have R5 := Lib.hid ho5.ri
  clear ho5
  go_wp2_with fail
  refine (spec_SavePrize_c A' n' d' P s _ hpl.out hpm RP.out).mono ?_
  rintro e w9 ⟨G6, n6, d6, rfl, hl6, hm6, ho6, hb9⟩
  have B9 := Lib.hid (below_step B8.out hb9 B8.out.size)
  replace R := Lib.hid (R.out.below hb9)
  replace R1 := Lib.hid (R1.out.below hb9)
  replace R2' := Lib.hid (R2'.out.below hb9)
  replace R3 := Lib.hid (R3.out.below hb9)
  replace R4 := Lib.hid (R4.out.below hb9)
  replace RP := Lib.hid (RP.out.below hb9)
  replace R5 := Lib.hid (R5.out.below hb9)
  clear hb9
  have R6 := Lib.hid ho6.ri
  clear ho6
  go_wp2_with fail
  refine (laws_likeInts_c G1 G2 n1 n2 d1 d2 (dmV u ws) _ hl1.out hl2.out hm1 R1.out R2'.out).mono ?_
  rintro e w10 ⟨rfl, hb10⟩
  have B10 := Lib.hid (below_step B9.out hb10 B9.out.size)
  replace R := Lib.hid (R.out.below hb10)
  replace R1 := Lib.hid (R1.out.below hb10)
  replace R2' := Lib.hid (R2'.out.below hb10)
  replace R3 := Lib.hid (R3.out.below hb10)
  replace R4 := Lib.hid (R4.out.below hb10)
  replace RP := Lib.hid (RP.out.below hb10)
  replace R5 := Lib.hid (R5.out.below hb10)
  replace R6 := Lib.hid (R6.out.below hb10)
  clear hb10
  go_wp2_with fail
  refine (laws_likeInts_c G3 G4 n3 n4 d3 d4 (sbV v k) _ hl3.out hl4.out hm3 R3.out R4.out).mono ?_
  rintro e w11 ⟨rfl, hb11⟩
  have B11 := Lib.hid (below_step B10.out hb11 B10.out.size)
  replace R := Lib.hid (R.out.below hb11)
  replace R1 := Lib.hid (R1.out.below hb11)
  replace R2' := Lib.hid (R2'.out.below hb11)
  replace R3 := Lib.hid (R3.out.below hb11)
  replace R4 := Lib.hid (R4.out.below hb11)
  replace RP := Lib.hid (RP.out.below hb11)
  replace R5 := Lib.hid (R5.out.below hb11)
  replace R6 := Lib.hid (R6.out.below hb11)
  clear hb11
  go_wp2_with fail
  refine (laws_likeInts_c G5 G6 n5 n6 d5 d6 (spV P s) _ hl5.out hl6.out hm5 R5.out R6.out).mono ?_
  rintro e w12 ⟨rfl, hb12⟩
  have B12 := Lib.hid (below_step B11.out hb12 B11.out.size)
  replace R := Lib.hid (R.out.below hb12)
  replace R1 := Lib.hid (R1.out.below hb12)
  replace R2' := Lib.hid (R2'.out.below hb12)
  replace R3 := Lib.hid (R3.out.below hb12)
  replace R4 := Lib.hid (R4.out.below hb12)
  replace RP := Lib.hid (RP.out.below hb12)
  replace R5 := Lib.hid (R5.out.below hb12)
  replace R6 := Lib.hid (R6.out.below hb12)
  clear hb12
  have H1 := Lib.hid (fun h => (sb_law (u := v) (k := k) h))
  have H2 := Lib.hid (fun h => (sp_law (P := P) (s := s) h))
  obtain ⟨E1, hE1⟩ : ∃ E, sbE v k = E := ⟨_, rfl⟩
  obtain ⟨E2, hE2⟩ : ∃ E, spE P s = E := ⟨_, rfl⟩
  obtain ⟨E, hE⟩ : ∃ E, dmE u ws = E := ⟨_, rfl⟩
  rw [hE1] at H1
  rw [hE2] at H2
  rw [hE1, hE2, hE]
  have HE := Lib.hid hE
  clear hE1 hE2 hE
  by_cases z1 : E1 = 0
  · subst z1
    obtain ⟨hs1, HB1⟩ := H1.out rfl
    have HS1 := Lib.hid hs1
    clear H1 hs1
    by_cases z2 : E2 = 0
    · subst z2
      obtain ⟨hs2, HB2, HB3⟩ := H2.out rfl
      have HS2 := Lib.hid hs2
      clear H2 hs2
      by_cases z0 : E = 0
      · subst z0
        obtain ⟨k1, k2, k3, k4, k5, k6, k7, k8, k9, k10⟩ := dm_law HE.out
        have hnn : n1 = n := by have := hl1.out; have := hwl.out; omega
        subst hnn
        have n5' : n1 ≤ 5 := by have := hwl.out; omega
        have HS := Lib.hid k8
        have HQ := Lib.hid k10
        obtain ⟨T, hT⟩ : ∃ T, sumL ws = T := ⟨_, rfl⟩
        have HT := Lib.hid hT
        have HW := small_of (B := 1000000) (by omega) k3
        rw [hT] at k6 k7 HQ
        clear k1 k2 k3 k8 k10 hT
        go_wp2_with (go_at_call 32; first
            | ((with_reducible refine (laws_sum_c _ _ _ (sbV v k) _ hl3.out hm3 R3.out HB1).mono ?_); rintro e w' ⟨rfl, rfl⟩; rw [HS1.out])
            | ((with_reducible refine (laws_sum_c _ _ _ (spV P s) _ hl5.out hm5 R5.out HB2).mono ?_); rintro e w' ⟨rfl, rfl⟩; rw [HS2.out])
            | ((with_reducible refine (laws_sum_c _ _ _ P _ hpl.out hpm RP.out HB3).mono ?_); rintro e w' ⟨rfl, rfl⟩))
        refine (laws_sum_c _ _ _ ws _ hwl.out hwm R.out HW).mono ?_
        rintro e w' ⟨rfl, rfl⟩
        rw [HT.out]
        go_wp2_with fail
        go_loopw [22] (fun i wr => ∃ j q : Nat, i = .int .i64 j ∧ j ≤ n1 ∧ wr = w12.drewN q) (fun i _ => n1 - (intOf i).toNat)
        case atStart => exact ⟨0, 0, rfl, Nat.zero_le _, rfl⟩
        case round =>
          obtain ⟨j, q, rfl, hj, rfl⟩ := hrel
          by_cases hlt : j < n1
          · obtain ⟨x, hx⟩ := get_some (zs := dmV u ws) (k := j) (by have := hl1.out; omega)
            obtain ⟨y, hy⟩ := get_some (zs := ws) (k := j) (by have := hwl.out; omega)
            obtain ⟨m1, m2, m3, m4, m5⟩ := HQ.out j x y hx hy
            rcases R1.out.split with h0 | ⟨g1, o1, rfl, hgl1, hc1⟩
            · exfalso; have := hl1.out; omega
            rcases R.out.split with h0 | ⟨g2, o2, rfl, hgl2, hc2⟩
            · exfalso; have := hwl.out; omega
            have hcx := hc1.out j x hx
            have hcy := hc2.out j y hy
            have i1 : (j : Int) < (n1 : Int) := by omega
            have i2 : 0 ≤ (j : Int) := by omega
            have f1 : ¬ (x * T ≤ u * y - T) := by omega
            have f2 : ¬ (u * y + T ≤ x * T) := by omega
            have f3 := IntWalk.i64_in (x * T) (by omega)
            have f4 := IntWalk.i64_in (u * y) (by omega)
            have f5 := IntWalk.i64_in (u * y - T) (by omega)
            have f6 := IntWalk.i64_in (u * y + T) (by omega)
            clear hx hy hc1 hc2 m1 m2 m3 m4 m5
            go_wp2_with fail
            go_quiet (fail)
            clear f3 f4 f5 f6
            go_wp2_with fail
            go_roundw
            case rel => exact ⟨j + 1, _, by go_num, by omega, rfl⟩
            case measure => simp [intOf]; omega
          · go_wp2_with (go_at_call 32; refine (laws_sum_c _ _ _ (dmV u ws) _ hl1.out hm1 (R1.out.drewN _) k9).mono ?_; rintro e w' ⟨rfl, rfl⟩; rw [HS.out])
            go_ret
            exact ⟨ret_bool (by simp), below_drewN B12.out _⟩
      · have z1 : (E != 0) = true := by simp [z0]
        go_wp2_with (go_at_call 32; first
            | ((with_reducible refine (laws_sum_c _ _ _ (sbV v k) _ hl3.out hm3 R3.out HB1).mono ?_); rintro e w' ⟨rfl, rfl⟩; rw [HS1.out])
            | ((with_reducible refine (laws_sum_c _ _ _ (spV P s) _ hl5.out hm5 R5.out HB2).mono ?_); rintro e w' ⟨rfl, rfl⟩; rw [HS2.out])
            | ((with_reducible refine (laws_sum_c _ _ _ P _ hpl.out hpm RP.out HB3).mono ?_); rintro e w' ⟨rfl, rfl⟩))
        go_ret
        exact ⟨rfl, B12.out⟩
    · have z2' : (E2 == 0) = false := by simp [z2]
      by_cases z0 : E = 0
      · subst z0
        obtain ⟨k1, k2, k3, k4, k5, k6, k7, k8, k9, k10⟩ := dm_law HE.out
        have hnn : n1 = n := by have := hl1.out; have := hwl.out; omega
        subst hnn
        have n5' : n1 ≤ 5 := by have := hwl.out; omega
        have HS := Lib.hid k8
        have HQ := Lib.hid k10
        obtain ⟨T, hT⟩ : ∃ T, sumL ws = T := ⟨_, rfl⟩
        have HT := Lib.hid hT
        have HW := small_of (B := 1000000) (by omega) k3
        rw [hT] at k6 k7 HQ
        clear k1 k2 k3 k8 k10 hT
        go_wp2_with (go_at_call 32; first
            | ((with_reducible refine (laws_sum_c _ _ _ (sbV v k) _ hl3.out hm3 R3.out HB1).mono ?_); rintro e w' ⟨rfl, rfl⟩; rw [HS1.out])
            | ((with_reducible refine (laws_sum_c _ _ _ (spV P s) _ hl5.out hm5 R5.out HB2).mono ?_); rintro e w' ⟨rfl, rfl⟩; rw [HS2.out])
            | ((with_reducible refine (laws_sum_c _ _ _ P _ hpl.out hpm RP.out HB3).mono ?_); rintro e w' ⟨rfl, rfl⟩))
        refine (laws_sum_c _ _ _ ws _ hwl.out hwm R.out HW).mono ?_
        rintro e w' ⟨rfl, rfl⟩
        rw [HT.out]
        go_wp2_with fail
        go_loopw [22] (fun i wr => ∃ j q : Nat, i = .int .i64 j ∧ j ≤ n1 ∧ wr = w12.drewN q) (fun i _ => n1 - (intOf i).toNat)
        case atStart => exact ⟨0, 0, rfl, Nat.zero_le _, rfl⟩
        case round =>
          obtain ⟨j, q, rfl, hj, rfl⟩ := hrel
          by_cases hlt : j < n1
          · obtain ⟨x, hx⟩ := get_some (zs := dmV u ws) (k := j) (by have := hl1.out; omega)
            obtain ⟨y, hy⟩ := get_some (zs := ws) (k := j) (by have := hwl.out; omega)
            obtain ⟨m1, m2, m3, m4, m5⟩ := HQ.out j x y hx hy
            rcases R1.out.split with h0 | ⟨g1, o1, rfl, hgl1, hc1⟩
            · exfalso; have := hl1.out; omega
            rcases R.out.split with h0 | ⟨g2, o2, rfl, hgl2, hc2⟩
            · exfalso; have := hwl.out; omega
            have hcx := hc1.out j x hx
            have hcy := hc2.out j y hy
            have i1 : (j : Int) < (n1 : Int) := by omega
            have i2 : 0 ≤ (j : Int) := by omega
            have f1 : ¬ (x * T ≤ u * y - T) := by omega
            have f2 : ¬ (u * y + T ≤ x * T) := by omega
            have f3 := IntWalk.i64_in (x * T) (by omega)
            have f4 := IntWalk.i64_in (u * y) (by omega)
            have f5 := IntWalk.i64_in (u * y - T) (by omega)
            have f6 := IntWalk.i64_in (u * y + T) (by omega)
            clear hx hy hc1 hc2 m1 m2 m3 m4 m5
            go_wp2_with fail
            go_quiet (fail)
            clear f3 f4 f5 f6
            go_wp2_with fail
            go_roundw
            case rel => exact ⟨j + 1, _, by go_num, by omega, rfl⟩
            case measure => simp [intOf]; omega
          · go_wp2_with (go_at_call 32; refine (laws_sum_c _ _ _ (dmV u ws) _ hl1.out hm1 (R1.out.drewN _) k9).mono ?_; rintro e w' ⟨rfl, rfl⟩; rw [HS.out])
            go_ret
            exact ⟨ret_bool (by simp), below_drewN B12.out _⟩
      · have z1 : (E != 0) = true := by simp [z0]
        go_wp2_with (go_at_call 32; first
            | ((with_reducible refine (laws_sum_c _ _ _ (sbV v k) _ hl3.out hm3 R3.out HB1).mono ?_); rintro e w' ⟨rfl, rfl⟩; rw [HS1.out])
            | ((with_reducible refine (laws_sum_c _ _ _ (spV P s) _ hl5.out hm5 R5.out HB2).mono ?_); rintro e w' ⟨rfl, rfl⟩; rw [HS2.out])
            | ((with_reducible refine (laws_sum_c _ _ _ P _ hpl.out hpm RP.out HB3).mono ?_); rintro e w' ⟨rfl, rfl⟩))
        go_ret
        exact ⟨rfl, B12.out⟩
  · have z1' : (E1 == 0) = false := by simp [z1]
    by_cases z2 : E2 = 0
    · subst z2
      obtain ⟨hs2, HB2, HB3⟩ := H2.out rfl
      have HS2 := Lib.hid hs2
      clear H2 hs2
      by_cases z0 : E = 0
      · subst z0
        obtain ⟨k1, k2, k3, k4, k5, k6, k7, k8, k9, k10⟩ := dm_law HE.out
        have hnn : n1 = n := by have := hl1.out; have := hwl.out; omega
        subst hnn
        have n5' : n1 ≤ 5 := by have := hwl.out; omega
        have HS := Lib.hid k8
        have HQ := Lib.hid k10
        obtain ⟨T, hT⟩ : ∃ T, sumL ws = T := ⟨_, rfl⟩
        have HT := Lib.hid hT
        have HW := small_of (B := 1000000) (by omega) k3
        rw [hT] at k6 k7 HQ
        clear k1 k2 k3 k8 k10 hT
        go_wp2_with (go_at_call 32; first
            | ((with_reducible refine (laws_sum_c _ _ _ (sbV v k) _ hl3.out hm3 R3.out HB1).mono ?_); rintro e w' ⟨rfl, rfl⟩; rw [HS1.out])
            | ((with_reducible refine (laws_sum_c _ _ _ (spV P s) _ hl5.out hm5 R5.out HB2).mono ?_); rintro e w' ⟨rfl, rfl⟩; rw [HS2.out])
            | ((with_reducible refine (laws_sum_c _ _ _ P _ hpl.out hpm RP.out HB3).mono ?_); rintro e w' ⟨rfl, rfl⟩))
        refine (laws_sum_c _ _ _ ws _ hwl.out hwm R.out HW).mono ?_
        rintro e w' ⟨rfl, rfl⟩
        rw [HT.out]
        go_wp2_with fail
        go_loopw [22] (fun i wr => ∃ j q : Nat, i = .int .i64 j ∧ j ≤ n1 ∧ wr = w12.drewN q) (fun i _ => n1 - (intOf i).toNat)
        case atStart => exact ⟨0, 0, rfl, Nat.zero_le _, rfl⟩
        case round =>
          obtain ⟨j, q, rfl, hj, rfl⟩ := hrel
          by_cases hlt : j < n1
          · obtain ⟨x, hx⟩ := get_some (zs := dmV u ws) (k := j) (by have := hl1.out; omega)
            obtain ⟨y, hy⟩ := get_some (zs := ws) (k := j) (by have := hwl.out; omega)
            obtain ⟨m1, m2, m3, m4, m5⟩ := HQ.out j x y hx hy
            rcases R1.out.split with h0 | ⟨g1, o1, rfl, hgl1, hc1⟩
            · exfalso; have := hl1.out; omega
            rcases R.out.split with h0 | ⟨g2, o2, rfl, hgl2, hc2⟩
            · exfalso; have := hwl.out; omega
            have hcx := hc1.out j x hx
            have hcy := hc2.out j y hy
            have i1 : (j : Int) < (n1 : Int) := by omega
            have i2 : 0 ≤ (j : Int) := by omega
            have f1 : ¬ (x * T ≤ u * y - T) := by omega
            have f2 : ¬ (u * y + T ≤ x * T) := by omega
            have f3 := IntWalk.i64_in (x * T) (by omega)
            have f4 := IntWalk.i64_in (u * y) (by omega)
            have f5 := IntWalk.i64_in (u * y - T) (by omega)
            have f6 := IntWalk.i64_in (u * y + T) (by omega)
            clear hx hy hc1 hc2 m1 m2 m3 m4 m5
            go_wp2_with fail
            go_quiet (fail)
            clear f3 f4 f5 f6
            go_wp2_with fail
            go_roundw
            case rel => exact ⟨j + 1, _, by go_num, by omega, rfl⟩
            case measure => simp [intOf]; omega
          · go_wp2_with (go_at_call 32; refine (laws_sum_c _ _ _ (dmV u ws) _ hl1.out hm1 (R1.out.drewN _) k9).mono ?_; rintro e w' ⟨rfl, rfl⟩; rw [HS.out])
            go_ret
            exact ⟨ret_bool (by simp), below_drewN B12.out _⟩
      · have z1 : (E != 0) = true := by simp [z0]
        go_wp2_with (go_at_call 32; first
            | ((with_reducible refine (laws_sum_c _ _ _ (sbV v k) _ hl3.out hm3 R3.out HB1).mono ?_); rintro e w' ⟨rfl, rfl⟩; rw [HS1.out])
            | ((with_reducible refine (laws_sum_c _ _ _ (spV P s) _ hl5.out hm5 R5.out HB2).mono ?_); rintro e w' ⟨rfl, rfl⟩; rw [HS2.out])
            | ((with_reducible refine (laws_sum_c _ _ _ P _ hpl.out hpm RP.out HB3).mono ?_); rintro e w' ⟨rfl, rfl⟩))
        go_ret
        exact ⟨rfl, B12.out⟩
    · have z2' : (E2 == 0) = false := by simp [z2]
      by_cases z0 : E = 0
      · subst z0
        obtain ⟨k1, k2, k3, k4, k5, k6, k7, k8, k9, k10⟩ := dm_law HE.out
        have hnn : n1 = n := by have := hl1.out; have := hwl.out; omega
        subst hnn
        have n5' : n1 ≤ 5 := by have := hwl.out; omega
        have HS := Lib.hid k8
        have HQ := Lib.hid k10
        obtain ⟨T, hT⟩ : ∃ T, sumL ws = T := ⟨_, rfl⟩
        have HT := Lib.hid hT
        have HW := small_of (B := 1000000) (by omega) k3
        rw [hT] at k6 k7 HQ
        clear k1 k2 k3 k8 k10 hT
        go_wp2_with (go_at_call 32; first
            | ((with_reducible refine (laws_sum_c _ _ _ (sbV v k) _ hl3.out hm3 R3.out HB1).mono ?_); rintro e w' ⟨rfl, rfl⟩; rw [HS1.out])
            | ((with_reducible refine (laws_sum_c _ _ _ (spV P s) _ hl5.out hm5 R5.out HB2).mono ?_); rintro e w' ⟨rfl, rfl⟩; rw [HS2.out])
            | ((with_reducible refine (laws_sum_c _ _ _ P _ hpl.out hpm RP.out HB3).mono ?_); rintro e w' ⟨rfl, rfl⟩))
        refine (laws_sum_c _ _ _ ws _ hwl.out hwm R.out HW).mono ?_
        rintro e w' ⟨rfl, rfl⟩
        rw [HT.out]
        go_wp2_with fail
        go_loopw [22] (fun i wr => ∃ j q : Nat, i = .int .i64 j ∧ j ≤ n1 ∧ wr = w12.drewN q) (fun i _ => n1 - (intOf i).toNat)
        case atStart => exact ⟨0, 0, rfl, Nat.zero_le _, rfl⟩
        case round =>
          obtain ⟨j, q, rfl, hj, rfl⟩ := hrel
          by_cases hlt : j < n1
          · obtain ⟨x, hx⟩ := get_some (zs := dmV u ws) (k := j) (by have := hl1.out; omega)
            obtain ⟨y, hy⟩ := get_some (zs := ws) (k := j) (by have := hwl.out; omega)
            obtain ⟨m1, m2, m3, m4, m5⟩ := HQ.out j x y hx hy
            rcases R1.out.split with h0 | ⟨g1, o1, rfl, hgl1, hc1⟩
            · exfalso; have := hl1.out; omega
            rcases R.out.split with h0 | ⟨g2, o2, rfl, hgl2, hc2⟩
            · exfalso; have := hwl.out; omega
            have hcx := hc1.out j x hx
            have hcy := hc2.out j y hy
            have i1 : (j : Int) < (n1 : Int) := by omega
            have i2 : 0 ≤ (j : Int) := by omega
            have f1 : ¬ (x * T ≤ u * y - T) := by omega
            have f2 : ¬ (u * y + T ≤ x * T) := by omega
            have f3 := IntWalk.i64_in (x * T) (by omega)
            have f4 := IntWalk.i64_in (u * y) (by omega)
            have f5 := IntWalk.i64_in (u * y - T) (by omega)
            have f6 := IntWalk.i64_in (u * y + T) (by omega)
            clear hx hy hc1 hc2 m1 m2 m3 m4 m5
            go_wp2_with fail
            go_quiet (fail)
            clear f3 f4 f5 f6
            go_wp2_with fail
            go_roundw
            case rel => exact ⟨j + 1, _, by go_num, by omega, rfl⟩
            case measure => simp [intOf]; omega
          · go_wp2_with (go_at_call 32; refine (laws_sum_c _ _ _ (dmV u ws) _ hl1.out hm1 (R1.out.drewN _) k9).mono ?_; rintro e w' ⟨rfl, rfl⟩; rw [HS.out])
            go_ret
            exact ⟨ret_bool (by simp), below_drewN B12.out _⟩
      · have z1 : (E != 0) = true := by simp [z0]
        go_wp2_with (go_at_call 32; first
            | ((with_reducible refine (laws_sum_c _ _ _ (sbV v k) _ hl3.out hm3 R3.out HB1).mono ?_); rintro e w' ⟨rfl, rfl⟩; rw [HS1.out])
            | ((with_reducible refine (laws_sum_c _ _ _ (spV P s) _ hl5.out hm5 R5.out HB2).mono ?_); rintro e w' ⟨rfl, rfl⟩; rw [HS2.out])
            | ((with_reducible refine (laws_sum_c _ _ _ P _ hpl.out hpm RP.out HB3).mono ?_); rintro e w' ⟨rfl, rfl⟩))
        go_ret
        exact ⟨rfl, B12.out⟩

set_option maxRecDepth 100000 in
theorem lifted (os : Os) (started : os.Started) (H : Type) (enc : TypeId × Value → H) :
    ReturnsInHanded {} Try.checked os 5 .any (Rows.fnDividedSpec.pre6 enc Try.prog Try.f5 Rows.fnDividedRow.domain false) (Rows.fnDividedSpec.post enc Try.prog Try.f5 false true false false) := by
  refine returnsInHanded_of_change (C := Try.checked) own started (by kernel_rfl) Try.func5
    (ChangeSpec.witness6 (enc := enc) (C := Try.checked) false ⟨#[], #[.slice none 0 0], []⟩ 8 (by kernel_rfl) (by kernel_rfl) (by kernel_rfl) (by kernel_rfl)) ?_
  intro W base args ds gs before hval0 hW hcnd _
  have hval : ∀ (j : Nat) t v, Try.f5.params[j]? = some t → args[j]? = some v → Value.okWide Try.prog W .any base t v := hval0
  have hW' := hW
  obtain ⟨p, q, hA0, hV, rfl, hfz, hnd⟩ := hW
  have hA : DataW.TrodAll enc Try.prog W 0 (fun _ => true) true Try.f5.params.toList args.toList ds p := hA0
  rw [Try.params5] at hA hval
  obtain ⟨v0, vs0, d0, ds0, p0, q0, hargs, rfl, rfl, h0, r0⟩ := trodAll_cons hA
  obtain ⟨rfl, rfl, rfl⟩ := trodAll_nil r0
  obtain rfl : args = #[v0] := by cases args; simp_all
  obtain ⟨rfl, rfl⟩ := trodVars_none hV
  obtain ⟨a0, len0, cap0, rfl⟩ := okWide_slice Try.underlying31 (hval 0 31 v0 rfl rfl)
  have k0 := h0
  have lt0 : ∀ x ∈ p0, x.block < W.heap.size := by obtain ⟨m, hm⟩ := k0; exact DataW.trod_lt m _ _ _ hm
  obtain ⟨z0, w0⟩ : ∃ zs, IsRow .u8 W a0 len0 cap0 zs := by
    obtain ⟨fuel, hf⟩ := h0
    rcases open_ints Try.underlying31 Try.underlying5 (by kernel_rfl) hf with ⟨hcs, _⟩ | ⟨x, l, c, zs, hcs, _, hl, hm, hz, _, hcell, hwz⟩
    · simp [Value.cells] at hcs
      obtain ⟨rfl, rfl, rfl⟩ := hcs
      exact ⟨[], .inl ⟨rfl, rfl, rfl, rfl⟩⟩
    · simp [Value.cells] at hcs
      obtain ⟨rfl, rfl, rfl⟩ := hcs
      exact ⟨zs, .inr ⟨_, rfl, hl, hm, by simpa using hz, hcell, hwz⟩⟩
  clear hA0 hval0
  refine (walk a0 len0 cap0 z0 W w0).mono fun e W' ⟨he, bel⟩ => ?_
  subst he
  exact ⟨_, rfl, _, _, _, [], _, [], hW', trodAll_mk1 (shut_bool Try.underlying4 _), (trodAll_cons_mk (Below.trod laidOut (by kernel_rfl) (of_decide_eq_true (by kernel_rfl)) k0 bel lt0) trodAll_mk0), rfl, bel.frame _, fun h => by cases h⟩

theorem over : Rows.fnDividedRow.holds Try.pinned (OpenSpec.ofChange Rows.fnDividedSpec) :=
  OpenClaim.holds_of_wide 5 Try.f5 rfl rfl rfl rfl rfl rfl rfl ⟨rfl, rfl, rfl, rfl, rfl⟩ rfl rfl rfl rfl rfl (by kernel_rfl) Try.func5 (by kernel_rfl)
    (of_decide_eq_true (by kernel_rfl)) (by unfold Func.isWrapper; first | (rw [if_pos (by decide +kernel)]; kernel_rfl) | (rw [if_neg (by decide +kernel)]; exact ⟨rfl, rfl⟩))
    (fun os started H enc _ => lifted os started H enc)

/-- THE STATEMENT. -/
theorem proved : Rows.FnDividedSaid := over
#print axioms proved
end Go.Proofs.Ythpgkngkmmameaa.fnDivided
