/-
  The contracts of the program's IsAcceptable and WorstDeal. Conditions: at most 1048576 elements.
-/
import Derived.Test.YthpgkngkmmameaaWorst
namespace Go.Proofs.Ythpgkngkmmameaa
open Go.RowKit
set_option linter.unusedVariables false
theorem dw_ok {S P D : List Int} (h : dwE S P D = 0) : deB S P D = 0 ∧ ∃ es ds, dwQ S P D = some (es, ds) ∧ feK S P S.length = some es ∧ dfK es D S.length = some ds := by
  unfold dwE at h
  by_cases h0 : deB S P D = 0
  · rw [if_pos h0] at h
    refine ⟨h0, ?_⟩
    unfold dwQ at h ⊢
    cases h1 : feK S P S.length with
    | none => rw [h1] at h; simp at h
    | some es =>
      rw [h1] at h
      cases h2 : dfK es D S.length with
      | none =>
        exfalso
        have e : ((some es : Option (List (Int × Int))).bind fun es => (dfK es D S.length).map fun ds => (es, ds)) = none := by
          show (dfK es D S.length).map _ = none
          rw [h2]; rfl
        rw [e] at h
        exact absurd h (by decide)
      | some ds =>
        refine ⟨es, ds, ?_, rfl, h2⟩
        show (dfK es D S.length).map _ = _
        rw [h2]; rfl
  · rw [if_neg h0] at h; exact absurd h h0
theorem ret_bi2 {k : IntKind} {a b : Bool} {c d : Int} (h : a = b) (h' : c = d) : Ending.returned (.tuple #[.bool a, .int k c]) = .returned (.tuple #[.bool b, .int k d]) := by rw [h, h']
theorem dw_no {S P D : List Int} (h : ¬ dwE S P D = 0) : iaV S P D = false ∧ wdV S P D = 0 := by
  unfold iaV wdV
  unfold dwE at h
  cases hq : dwQ S P D with
  | none => exact ⟨rfl, rfl⟩
  | some x =>
    rw [hq] at h
    by_cases h0 : deB S P D = 0
    · rw [if_pos h0] at h; exact absurd rfl h
    · exact ⟨by simp [h0], by simp [h0]⟩
theorem dw_yes {S P D : List Int} {es ds : List (Int × Int)} (h0 : deB S P D = 0) (hq : dwQ S P D = some (es, ds)) : iaV S P D = frB es D S.length ∧ wdV S P D = (bestQ ds S.length : Nat) := by
  unfold iaV wdV
  rw [hq]
  exact ⟨by simp [h0], by simp [h0]⟩
set_option maxRecDepth 100000 in
set_option maxHeartbeats 2000000 in
theorem impl_IsAcceptable_c (A : Option Addr) (n c : Nat) (S : List Int) (B : Option Addr) (m d : Nat) (P : List Int) (C : Option Addr) (l f : Nat) (D : List Int) (w : World) (hn : S.length = n) (hm : n ≤ 1048576) (hr : RI w A S) (hn' : P.length = m) (hm' : m ≤ 1048576) (hr' : RI w B P) (hn3 : D.length = l) (hm3 : l ≤ 1048576) (hr3 : RI w C D) (hmd : m ≤ d) :
    Calls Try.prog 38 #[.slice A n c, .slice B m d, .slice C l f] w fun e w' => e = .returned (.tuple #[.bool (iaV S P D), .int .i64 (dwE S P D)]) ∧ Below w.heap.size w w' := by
  have HN := Lib.hid hn
  have HN' := Lib.hid hn'
  have HN3 := Lib.hid hn3
  clear hn hn' hn3
  by_cases hE : dwE S P D = 0
  · obtain ⟨h0, es, ds, hq, hfe, hdf⟩ := dw_ok hE
    obtain ⟨h1, hDl, hD, -⟩ := de_ok h0
    have HV := Lib.hid (dw_yes h0 hq).1
    have HA := Lib.hid (dd_some (S := S) (P := P) (D := D) h0 hq)
    have HE := Lib.hid hE
    have n5 : n ≤ 5 := by rw [← HN.out]; exact (fieldB_iff.1 (prizesB_iff.1 h1).1).2.1
    have n2 : 2 ≤ n := by rw [← HN.out]; exact (fieldB_iff.1 (prizesB_iff.1 h1).1).1
    have GOOD := Lib.hid (feK_good h1 (Nat.le_refl _) hfe)
    have LE := Lib.hid (feK_len hfe)
    obtain rfl : l = n := by have := HN.out; have := HN3.out; omega
    clear h0 hq hfe hdf h1 hDl hE
    go_enter Try.func38, Try.ntmps38
    go_wp2_with fail
    refine (impl_dealDifferences_c A l c S B m d P C l f D _ HN.out hm hr HN'.out hm' hr' HN3.out hm3 hr3 hmd).mono ?_
    rintro e w1 ⟨G, g1, c1, G2, g2, c2, rfl, hl1, hl2, ho1, ho2, b1⟩
    rw [HE.out]
    rw [HA.out.1] at hl1 ho1
    have B1 := Lib.hid b1
    have rE := Lib.hid ho1.ri
    obtain rfl : g1 = l := by have := hl1.out; have := LE.out; have := HN.out; omega
    clear b1 ho1 ho2 hl2
    rcases rE.out.split with hz | ⟨ge, rfl, hge, hce⟩
    · exfalso; have := hl1.out; omega
    rcases hr3.split with hz | ⟨bd, od, rfl, hbd, hcd⟩
    · exfalso; have := HN3.out; omega
    go_wp2_with fail
    go_loopw [26] (fun u wr => ∃ k : Nat, u = .int .i64 k ∧ k ≤ g1 ∧ Hid (frB es D k = true) ∧ Hid (Below w1.heap.size w1 wr)) (fun u _ => g1 - (intOf u).toNat)
    case atStart => exact ⟨0, rfl, Nat.zero_le _, Lib.hid rfl, Lib.hid (Below.refl _ _)⟩
    case round =>
      obtain ⟨k, rfl, hk, hfr, hbw⟩ := hrel
      by_cases hlt : k < g1
      · have i1 : (k : Int) < (g1 : Int) := by omega
        have i2 : (0 : Int) ≤ (k : Int) := by omega
        obtain ⟨x, y, hxy⟩ := get_q (qs := es) (k := k) (by rw [hl1.out]; exact hlt)
        obtain ⟨z, hz⟩ := get_some (zs := D) (k := k) (by rw [HN3.out]; exact hlt)
        have hxq := getQ_some hxy
        obtain ⟨x0, hR⟩ := GOOD.out k (by rw [HN.out]; exact hlt)
        rw [hxq] at x0 hR
        obtain ⟨-, x1, y0, y1, -⟩ := isR_iff.1 hR
        have hq0 : 0 ≤ x / y := Int.ediv_nonneg x0 (by omega)
        have hq1 : x / y ≤ 1000000000 := Int.le_trans (Int.ediv_le_self _ x0) x1
        have HF := Lib.hid (show frB es D (k + 1) = decide (x / y ≤ z) by
          show (frB es D k && decide ((getQ es k).1 / (getQ es k).2 ≤ D.getD k 0)) = _
          rw [hfr.out, hxq, show D.getD k 0 = z by simp [List.getD, hz]]
          rfl)
        obtain ⟨p0, p1⟩ := hce.out k x y hxy
        have c0 := (hbw.out.cell (p := ⟨ge, k * 2, none⟩) hge).trans p0
        have c3 := (hbw.out.cell (p := ⟨ge, k * 2 + 1, none⟩) hge).trans p1
        have c4 := (hbw.out.cell (p := ⟨bd, od + k, none⟩) (Nat.lt_of_lt_of_le hbd B1.out.size)).trans ((B1.out.cell (p := ⟨bd, od + k, none⟩) hbd).trans (hcd.out k z hz))
        have bdl : bd < wr.heap.size := Nat.lt_of_lt_of_le (Nat.lt_of_lt_of_le hbd B1.out.size) hbw.out.size
        have e3 : (wr.alloc (.cells #[.int .i64 x, .int .i64 y] 48)).cell? ⟨bd, od + k, none⟩ = some (.int .i64 z) := ((below_al wr _).cell (p := ⟨bd, od + k, none⟩) bdl).trans c4
        have t1 : x.tdiv y = x / y := Int.tdiv_eq_ediv_of_nonneg x0
        have t2 : IntKind.i64.wrap (x / y) = x / y := IntWalk.i64_in _ (by omega)
        have t3 : ¬ y = 0 := by omega
        clear hz hxy hxq p0 p1 hR
        by_cases hzq : z < x / y
        · have HIN := Lib.hid (show iaV S P D = false by
            rw [HV.out]
            exact frB_no (k := k + 1) (by rw [HF.out]; exact decide_eq_false (by omega)) (by rw [HN.out]; omega))
          go_wp2_with fail
          go_quiet (fail)
          clear t1 t2
          go_wp2_with fail
          go_ret2
          exact ⟨ret_bi2 HIN.out.symm HE.out.symm, below_drewN (below_step B1.out (below_step hbw.out (below_al wr _) hbw.out.size) B1.out.size) _⟩
        · have HF2 := Lib.hid (show frB es D (k + 1) = true by rw [HF.out]; exact decide_eq_true (by omega))
          go_wp2_with fail
          go_quiet (fail)
          clear t1 t2
          go_wp2_with fail
          go_roundw
          case rel => exact ⟨k + 1, by go_num, by omega, HF2, Lib.hid (below_drewN (below_step hbw.out (below_al wr _) hbw.out.size) _)⟩
          case measure => simp [intOf]; omega
      · have HIN := Lib.hid (show iaV S P D = true by
          rw [HV.out, HN.out, ← hfr.out]
          congr 1
          omega)
        go_wp2_with fail
        go_ret2
        exact ⟨ret_bi2 HIN.out.symm HE.out.symm, below_step B1.out hbw.out B1.out.size⟩
  · have HV := Lib.hid (dw_no hE).1
    obtain ⟨E, hE2⟩ : ∃ E, dwE S P D = E := ⟨_, rfl⟩
    rw [hE2] at hE
    have HE := Lib.hid hE2
    have hB : (E == 0) = false := by simp [hE]
    clear hE2
    go_enter Try.func38, Try.ntmps38
    go_wp2_with fail
    refine (impl_dealDifferences_c A n c S B m d P C l f D _ HN.out hm hr HN'.out hm' hr' HN3.out hm3 hr3 hmd).mono ?_
    rintro e w1 ⟨G, g1, c1, G2, g2, c2, rfl, hl1, hl2, ho1, ho2, b1⟩
    rw [HE.out]
    clear ho1 ho2 hl1 hl2
    go_wp2_with fail
    go_ret2
    exact ⟨ret_bi2 HV.out.symm HE.out.symm, b1⟩
theorem ds_good {S P D : List Int} {es ds : List (Int × Int)} (h : prizesB S P = true) (hf : feK S P S.length = some es) (hd : dfK es D S.length = some ds) : ∀ j, j < S.length → isR (getQ ds j).1 (getQ ds j).2 = true := by
  intro j hj
  obtain ⟨q, h1, h2⟩ := dfK_get hd hj
  rw [getQ_some h2]
  have hR := (feK_good h (Nat.le_refl _) hf j hj).2
  exact (ratQ_val (by have := (isR_iff.1 hR).2.2.1; omega) h1).1
set_option maxRecDepth 100000 in
set_option maxHeartbeats 2000000 in
theorem impl_WorstDeal_c (A : Option Addr) (n c : Nat) (S : List Int) (B : Option Addr) (m d : Nat) (P : List Int) (C : Option Addr) (l f : Nat) (D : List Int) (w : World) (hn : S.length = n) (hm : n ≤ 1048576) (hr : RI w A S) (hn' : P.length = m) (hm' : m ≤ 1048576) (hr' : RI w B P) (hn3 : D.length = l) (hm3 : l ≤ 1048576) (hr3 : RI w C D) (hmd : m ≤ d) :
    Calls Try.prog 20 #[.slice A n c, .slice B m d, .slice C l f] w fun e w' => e = .returned (.tuple #[.int .i64 (wdV S P D), .int .i64 (dwE S P D)]) ∧ Below w.heap.size w w' := by
  have HN := Lib.hid hn
  have HN' := Lib.hid hn'
  have HN3 := Lib.hid hn3
  clear hn hn' hn3
  by_cases hE : dwE S P D = 0
  · obtain ⟨h0, es, ds, hq, hfe, hdf⟩ := dw_ok hE
    obtain ⟨h1, hDl, hD, -⟩ := de_ok h0
    have HV := Lib.hid (dw_yes h0 hq).2
    have HA := Lib.hid (dd_some (S := S) (P := P) (D := D) h0 hq)
    have HE := Lib.hid hE
    have n5 : n ≤ 5 := by rw [← HN.out]; exact (fieldB_iff.1 (prizesB_iff.1 h1).1).2.1
    have n2 : 2 ≤ n := by rw [← HN.out]; exact (fieldB_iff.1 (prizesB_iff.1 h1).1).1
    have GOOD := Lib.hid (ds_good h1 hfe hdf)
    have LE := Lib.hid (dfK_len hdf)
    obtain rfl : l = n := by have := HN.out; have := HN3.out; omega
    clear h0 hq hfe hdf h1 hDl hE
    go_enter Try.func20, Try.ntmps20
    go_wp2_with fail
    refine (impl_dealDifferences_c A l c S B m d P C l f D _ HN.out hm hr HN'.out hm' hr' HN3.out hm3 hr3 hmd).mono ?_
    rintro e w1 ⟨G, g1, c1, G2, g2, c2, rfl, hl1, hl2, ho1, ho2, b1⟩
    rw [HE.out]
    rw [HA.out.2.1] at hl2 ho2
    have B1 := Lib.hid b1
    have rE := Lib.hid ho2.ri
    obtain rfl : g2 = l := by have := hl2.out; have := LE.out; have := HN.out; omega
    clear b1 ho1 ho2 hl1
    rcases rE.out.split with hz | ⟨ge, rfl, hge, hce⟩
    · exfalso; have := hl2.out; omega
    go_wp2_with fail
    go_loopw [11, 27] (fun t u wr => ∃ k : Nat, t = .int .i64 (bestQ ds k : Nat) ∧ u = .int .i64 k ∧ k ≤ g2 ∧ Hid (Below w1.heap.size w1 wr)) (fun _ u _ => g2 - (intOf u).toNat)
    case atStart => exact ⟨0, rfl, rfl, Nat.zero_le _, Lib.hid (Below.refl _ _)⟩
    case round =>
      obtain ⟨k, rfl, rfl, hk, hbw⟩ := hrel
      by_cases hlt : k < g2
      · obtain ⟨v, hv⟩ : ∃ v, bestQ ds k = v := ⟨_, rfl⟩
        have HB := Lib.hid hv
        have hvl : v < g2 := by rw [← hv]; exact bestQ_lt ds hk (by omega)
        rw [hv]
        clear hv
        have i1 : (k : Int) < (g2 : Int) := by omega
        have i2 : (0 : Int) ≤ (k : Int) := by omega
        have i3 : (v : Int) < (g2 : Int) := by omega
        have i4 : (0 : Int) ≤ (v : Int) := by omega
        obtain ⟨x, y, hxy⟩ := get_q (qs := ds) (k := k) (by rw [hl2.out]; exact hlt)
        obtain ⟨x', y', hxy'⟩ := get_q (qs := ds) (k := v) (by rw [hl2.out]; exact hvl)
        have G1 := GOOD.out k (by rw [HN.out]; exact hlt)
        have G2' := GOOD.out v (by rw [HN.out]; exact hvl)
        have HXQ := Lib.hid (getQ_some hxy)
        have HXQ' := Lib.hid (getQ_some hxy')
        rw [HXQ.out] at G1
        rw [HXQ'.out] at G2'
        have S1 := Lib.hid (Sm.of G1)
        have S2 := Lib.hid (Sm.of G2')
        have HBS := Lib.hid (show bestQ ds (k + 1) = if cmpI (x * y') (x' * y) < 0 then k else v by
          show (if cmpI ((getQ ds k).1 * (getQ ds (bestQ ds k)).2) ((getQ ds (bestQ ds k)).1 * (getQ ds k).2) < 0 then k else bestQ ds k) = _
          rw [HB.out, HXQ.out, HXQ'.out])
        obtain ⟨p0, p1⟩ := hce.out k x y hxy
        obtain ⟨p2, p3⟩ := hce.out v x' y' hxy'
        have c0 := (hbw.out.cell (p := ⟨ge, k * 2, none⟩) hge).trans p0
        have c3 := (hbw.out.cell (p := ⟨ge, k * 2 + 1, none⟩) hge).trans p1
        have gel := Nat.lt_of_lt_of_le hge hbw.out.size
        have c4 : (wr.alloc (.cells #[.int .i64 x, .int .i64 y] 48)).cell? ⟨ge, v * 2, none⟩ = some (.int .i64 x') := ((below_al wr _).cell (p := ⟨ge, v * 2, none⟩) gel).trans ((hbw.out.cell (p := ⟨ge, v * 2, none⟩) hge).trans p2)
        have c5 : (wr.alloc (.cells #[.int .i64 x, .int .i64 y] 48)).cell? ⟨ge, v * 2 + 1, none⟩ = some (.int .i64 y') := ((below_al wr _).cell (p := ⟨ge, v * 2 + 1, none⟩) gel).trans ((hbw.out.cell (p := ⟨ge, v * 2 + 1, none⟩) hge).trans p3)
        have BX := Lib.hid (below_step hbw.out (below_al wr (.cells #[.int .i64 x, .int .i64 y] 48)) hbw.out.size)
        clear hxy hxy' p0 p1 p2 p3 G1 G2'
        go_wp2_with fail
        have RX := Lib.hid (R2.new wr x y)
        obtain ⟨wx, hwx⟩ : ∃ wx : World, wx = (wr.alloc (.cells #[.int .i64 x, .int .i64 y] 48)) := ⟨_, rfl⟩
        obtain ⟨gx, hgx⟩ : ∃ gx : Nat, gx = wr.heap.size := ⟨_, rfl⟩
        rw [← hwx, ← hgx]
        rw [← hwx] at c4 c5 BX
        rw [← hwx, ← hgx] at RX
        clear hwx hgx c0 c3
        obtain ⟨q0, q1, -, -⟩ := RX.out.cells
        go_still_tail 5, (by kernel_rfl)
        change wpList _ _ _ _ _ wx.drew
        go_wp2_with fail
        refine (impl_compareRatios_c _ _ _ _ _ S1.out S2.out).mono ?_
        rintro e w3 ⟨rfl, b3⟩
        have B3 := Lib.hid (below_step BX.out.drew b3 BX.out.drew.size)
        clear b3 c4 c5 q0 q1
        obtain ⟨cv, hcv⟩ : ∃ cv, cmpI (x * y') (x' * y) = cv := ⟨_, rfl⟩
        rw [hcv] at HBS
        rw [hcv]
        clear hcv
        by_cases hc : cv < 0
        · have HS2 := Lib.hid (show bestQ ds (k + 1) = k by rw [HBS.out, if_pos hc])
          go_wp2_with fail
          go_roundw
          case rel => exact ⟨k + 1, by rw [HS2.out], by go_num, by omega, B3⟩
          case measure => simp [intOf]; omega
        · have HS2 := Lib.hid (show bestQ ds (k + 1) = v by rw [HBS.out, if_neg hc])
          go_wp2_with fail
          go_roundw
          case rel => exact ⟨k + 1, by rw [HS2.out], by go_num, by omega, B3⟩
          case measure => simp [intOf]; omega
      · have HIN := Lib.hid (show wdV S P D = (bestQ ds k : Nat) by rw [HV.out, HN.out, show g2 = k by omega])
        go_wp2_with fail
        go_ret2
        exact ⟨ret_int2 HIN.out.symm HE.out.symm, below_step B1.out hbw.out B1.out.size⟩
  · have HV := Lib.hid (dw_no hE).2
    obtain ⟨E, hE2⟩ : ∃ E, dwE S P D = E := ⟨_, rfl⟩
    rw [hE2] at hE
    have HE := Lib.hid hE2
    have hB : (E == 0) = false := by simp [hE]
    clear hE2
    go_enter Try.func20, Try.ntmps20
    go_wp2_with fail
    refine (impl_dealDifferences_c A n c S B m d P C l f D _ HN.out hm hr HN'.out hm' hr' HN3.out hm3 hr3 hmd).mono ?_
    rintro e w1 ⟨G, g1, c1, G2, g2, c2, rfl, hl1, hl2, ho1, ho2, b1⟩
    rw [HE.out]
    clear ho1 ho2 hl1 hl2
    go_wp2_with fail
    go_ret2
    exact ⟨ret_int2 HV.out.symm HE.out.symm, b1⟩
end Go.Proofs.Ythpgkngkmmameaa
