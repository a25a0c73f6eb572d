/-
  The contract of ModelChop of the program. Conditions: at most 1048576 elements.
-/
import Derived.Test.YthpgkngkmmameaaChop
namespace Go.Proofs.Ythpgkngkmmameaa
open Go.RowKit
set_option linter.unusedVariables false
set_option maxRecDepth 100000 in
set_option maxHeartbeats 8000000 in
theorem impl_ModelChop_c (A : Option Addr) (n c : Nat) (S : List Int) (B : Option Addr) (m d : Nat) (P : List Int) (w : World) (hn : S.length = n) (hm : n ≤ 1048576) (hr : RI w A S) (hn' : P.length = m) (hm' : m ≤ 1048576) (hr' : RI w B P) (hmd : m ≤ d) :
    Calls Try.prog 15 #[.slice A n c, .slice B m d] w (LR w (mcV S P) (feE S P)) := by
  have HN := Lib.hid hn
  have HN' := Lib.hid hn'
  clear hn hn'
  by_cases hE : feE S P = 0
  · obtain ⟨es, hok⟩ := ch_ok hE
    have n2 := hok.n1
    have n5 := hok.n2
    have sp := hok.sp
    have HE := Lib.hid hE
    have HL := Lib.hid hok.e
    have HLen := Lib.hid (show es.length = n by rw [hok.len]; exact HN.out)
    rw [HN.out] at n2 n5
    have HV := Lib.hid (show mcV S P = (giveQ (sumL P - sumL (flQ es)).toNat (flQ es, rsQ es)).1 by unfold mcV mcL; rw [if_pos HE.out, HL.out])
    have HF := Lib.hid (flQ_bd hok.q)
    have HR := Lib.hid (rsQ_sm hok.q)
    have HQ := Lib.hid hok.q
    obtain ⟨i0, hi, hz0, hz1, hz2⟩ := info_parts info_int
    obtain ⟨j0, ki, kz0, kz1, kz2⟩ := info_parts info_ratio
    have HBP := hok.bp
    clear hE hok
    go_enter Try.func15, Try.ntmps15
    go_wp2_with fail
    refine (impl_FieldEquities_c A n c S B m d P _ HN.out hm hr HN'.out hm' hr' hmd).mono ?_
    rintro e w1 ⟨G, g1, c1, rfl, hl1, hm1, ho1, b1⟩
    rw [HE.out]
    rw [HL.out] at hl1 ho1
    obtain rfl : g1 = n := by have := hl1.out; have := HLen.out; omega
    have B1 := Lib.hid b1
    have HRP := Lib.hid (hr'.below b1)
    rcases ho1.ri.split with hz | ⟨ge, rfl, hge, hce⟩
    · exfalso; have := HLen.out; omega
    clear b1 ho1 hl1 hr'
    go_wp2_with (first
      | (at_make; refine wpList_make_full _ rfl _ _ _ rfl w1.heap.size 2 i0 _ 1 Try.underlying22 hi hz0 hz1 _ _ _ _ g1 rfl rfl rfl rfl (by rw [hz2]; omega) (by unfold maxLen; omega) (Nat.le_refl _) ?_; intro w2 hown1 hg1; have RO1 := Lib.hid hown1; have GR1 := Lib.hid hg1; have SZ1 := hg1.size; clear hown1 hg1)
      | (at_make; refine wpList_make_full _ rfl _ _ _ rfl w2.heap.size 48 j0 _ 2 Try.underlying91 ki kz0 kz1 _ _ _ _ g1 rfl rfl rfl rfl (by rw [kz2]; omega) (by unfold maxLen; omega) (Nat.le_refl _) ?_; intro w3 hown2 hg2; have RO2 := Lib.hid hown2; have GR2 := Lib.hid hg2; clear hown2 hg2))
    clear hi hz0 hz1 hz2 ki kz0 kz1 kz2
    obtain ⟨G1, hG1⟩ : ∃ G1, w1.heap.size = G1 := ⟨_, rfl⟩
    obtain ⟨G2, hG2⟩ : ∃ G2, w2.heap.size = G2 := ⟨_, rfl⟩
    have CS := Lib.hid (ChSt.make RO1.out GR1.out RO2.out GR2.out)
    rw [hG1, hG2] at CS
    rw [hG1, hG2]
    rw [hG1] at hge
    clear RO1 GR1 RO2 GR2 SZ1
    obtain ⟨L, hL⟩ : ∃ L, sumL P - sumL (flQ es) = L := ⟨_, rfl⟩
    rw [hL] at HV
    go_loopw [33] (fun i wr => ∃ k : Nat, i = .int .i64 k ∧ k ≤ g1 ∧ Hid (ChSt w1 wr G1 G2 ((flQ es).take k ++ List.replicate (g1 - k) 0) ((rsQ es).take k ++ List.replicate (g1 - k) (0, 0)))) (fun i _ => g1 - (intOf i).toNat)
    case atStart => exact ⟨0, rfl, Nat.zero_le _, Lib.hid (by simpa using CS.out)⟩
    case round =>
      clear CS
      obtain ⟨k, rfl, hk, hcs⟩ := hrel
      by_cases hlt : k < g1
      · obtain ⟨x, y, hxy⟩ := get_q (qs := es) (k := k) (by rw [HLen.out]; exact hlt)
        obtain ⟨x0, hsm⟩ := HQ.out (x, y) (List.mem_of_getElem? hxy)
        have x1 : x ≤ 1000000000 := hsm.n1
        have y0 : 1 ≤ y := hsm.d0
        have y1 : y ≤ 1000000000 := hsm.d1
        have x0' : 0 ≤ x := x0
        have e1 : x.tdiv y = x / y := Int.tdiv_eq_ediv_of_nonneg x0'
        have e2 : x.tmod y = x % y := Int.tmod_eq_emod_of_nonneg x0'
        have e3 : ¬ y = 0 := by omega
        have q0 : 0 ≤ x / y := Int.ediv_nonneg x0' (by omega)
        have q1 : x / y ≤ x := Int.ediv_le_self _ x0'
        have z0 : 0 ≤ x % y := Int.emod_nonneg x e3
        have z1 : x % y < y := Int.emod_lt_of_pos x (by omega)
        have i1 : (k : Int) < (g1 : Int) := by omega
        have i2 : (0 : Int) ≤ (k : Int) := by omega
        obtain ⟨p0, p1⟩ := hce.out k x y hxy
        have c0 := (hcs.out.below.cell (p := ⟨ge, k * 2, none⟩) (by rw [hG1]; exact hge)).trans p0
        have c1 := (hcs.out.below.cell (p := ⟨ge, k * 2 + 1, none⟩) (by rw [hG1]; exact hge)).trans p1
        have CA := Lib.hid (hcs.out.step (below_al wr (.cells #[.int .i64 x, .int .i64 y] 48)))
        obtain ⟨d0, d1⟩ := CA.out.cells1 (zero_get (l := flQ es) (z := 0) (by rw [flQ_len]; exact HLen.out) hlt)
        have HX := Lib.hid hxy
        have HE1 := Lib.hid e1
        have HE2 := Lib.hid e2
        have HK := Lib.hid (show k < g1 from hlt)
        have gx1 := hcs.out.z1
        have gx2 := hcs.out.z2
        have ne1 : ¬ wr.heap.size = G1 := by omega
        have ne2 : ¬ G1 = wr.heap.size := by omega
        have ne3 : ¬ wr.heap.size = G2 := by omega
        have ne4 : ¬ G2 = wr.heap.size := by omega
        clear hxy p0 p1 hsm x0 e2
        go_upto_region 10 with (fail)
        have CB := Lib.hid (by
          have := hcs.out.set1 (j := k) (by simp [flQ_len]; have := HLen.out; omega) (x / y)
          rw [zero_set (by rw [flQ_len]; exact HLen.out) HK.out (flQ_get HX.out)] at this
          exact this.step (below_al _ (.cells #[.int .i64 x, .int .i64 y] 48)))
        have RX := Lib.hid (show R2 ((wr.setCell ⟨G1, k, none⟩ (.int .i64 (x / y))).alloc (.cells #[.int .i64 x, .int .i64 y] 48)) wr.heap.size x y by have := R2.new (wr.setCell ⟨G1, k, none⟩ (.int .i64 (x / y))) x y; simpa [World.setCell] using this)
        obtain ⟨wx, hwx⟩ : ∃ wx : World, wx = ((wr.setCell ⟨G1, k, none⟩ (.int .i64 (x / y))).alloc (.cells #[.int .i64 x, .int .i64 y] 48)) := ⟨_, rfl⟩
        obtain ⟨gx, hgx⟩ : ∃ gx : Nat, gx = wr.heap.size := ⟨_, rfl⟩
        rw [← hwx, ← hgx]
        rw [← hwx] at CB
        rw [← hwx, ← hgx] at RX
        rw [← hgx] at ne3 ne4
        have CC := Lib.hid (CB.out.set2 (j := k) (by simp [rsQ_len]; have := HLen.out; omega) (x % y) y)
        rw [zero_set (by rw [rsQ_len]; exact HLen.out) HK.out (rsQ_get HX.out)] at CC
        obtain ⟨a0, a1, -, -⟩ := RX.out.cells
        obtain ⟨r0, r1, r2, r3⟩ := CB.out.cells2 (zero_get (l := rsQ es) (z := (0, 0)) (by rw [rsQ_len]; exact HLen.out) HK.out)
        have e2 := HE2.out
        clear hwx hgx c0 c1 d0 d1 e1 ne1 ne2 hcs CA gx1 gx2
        go_wp2_with fail
        go_region
        all_goals
          go_wp2_with fail
          go_roundw
          case rel => exact ⟨k + 1, by go_num, by omega, Lib.hid CC.out.drew⟩
          case measure => simp [intOf]; omega
      · obtain rfl : k = g1 := by omega
        have C0 := hcs.out
        rw [Nat.sub_self, List.replicate_zero, List.append_nil, List.replicate_zero, List.append_nil, List.take_of_length_le (by rw [flQ_len, HLen.out]; exact Nat.le_refl _), List.take_of_length_le (by rw [rsQ_len, HLen.out]; exact Nat.le_refl _)] at C0
        have RP := Lib.hid (HRP.out.below C0.below)
        obtain ⟨F, hF⟩ : ∃ F, flQ es = F := ⟨_, rfl⟩
        obtain ⟨R, hR⟩ : ∃ R, rsQ es = R := ⟨_, rfl⟩
        have LF := Lib.hid (show F.length = k by rw [← hF, flQ_len]; exact HLen.out)
        have LRR := Lib.hid (show R.length = k by rw [← hR, rsQ_len]; exact HLen.out)
        rw [hF] at C0 HF hL HV
        rw [hR] at C0 HR HV
        have HFS := Lib.hid (show ∀ x ∈ F, -4000000000 ≤ x ∧ x ≤ 4000000000 from fun x hx => by have := HF.out x hx; omega)
        have sb := sumL_bound (zs := F) (B := 1000000000) (by omega) (fun x hx => by have := HF.out x hx; omega) k
        rw [List.take_of_length_le (by rw [LF.out]; exact Nat.le_refl _)] at sb
        have sb0 : -5000000000 ≤ sumL F := by omega
        have sb1 : sumL F ≤ 5000000000 := by omega
        have HC := Lib.hid C0
        have GL := Lib.hid (fun j => giveQ_len j (F, R))
        have GS := Lib.hid (giveQ_sm (s := (F, R)) HR.out)
        have GB := Lib.hid (giveQ_bd (s := (F, R)) (B := 1000000000) (by omega) HF.out)
        clear C0 hcs sb hF hR HR HF
        obtain ⟨w4, rfl⟩ : ∃ w4 : World, w4 = wr := ⟨_, rfl⟩
        go_wp2_with (go_at_call 87; first
          | ((with_reducible refine (impl_sumOf_c _ _ _ P _ HN'.out hm' RP.out HBP).mono ?_); rintro e w' ⟨rfl, rfl⟩)
          | ((with_reducible refine (impl_sumOf_c _ _ _ F _ LF.out (by omega) HC.out.s.ri HFS).mono ?_); rintro e w' ⟨rfl, rfl⟩))
        have hl0 : -5000000000 ≤ L := by omega
        have hl1 : L ≤ 6000000000 := by omega
        clear hL sb0 sb1
        go_loopw [12] (fun l wr => ∃ j : Nat, l = .int .i64 (L - j) ∧ j ≤ L.toNat ∧ Hid (ChSt w1 wr G1 G2 (giveQ j (F, R)).1 (giveQ j (F, R)).2)) (fun l _ => (intOf l).toNat)
        case atStart => exact ⟨0, by simp, Nat.zero_le _, HC⟩
        case round =>
          clear HC
          obtain ⟨j, rfl, hj, hcs⟩ := hrel
          by_cases hlt2 : 0 < L - j
          · have dL : decide ((j : Int) < L) = true := by simp; omega
            obtain ⟨rs, hrs⟩ : ∃ rs, (giveQ j (F, R)).2 = rs := ⟨_, rfl⟩
            obtain ⟨ss, hss⟩ : ∃ ss, (giveQ j (F, R)).1 = ss := ⟨_, rfl⟩
            have LRS := Lib.hid (show rs.length = k by rw [← hrs, (GL.out j).2]; exact LRR.out)
            have LSS := Lib.hid (show ss.length = k by rw [← hss, (GL.out j).1]; exact LF.out)
            have SM := Lib.hid (show ∀ q ∈ rs, Sm q.1 q.2 by rw [← hrs]; exact GS.out j)
            have BD := Lib.hid (show ∀ x ∈ ss, 0 ≤ x ∧ x ≤ 1000000000 + (j : Int) by rw [← hss]; exact GB.out j)
            have ST := Lib.hid (show ∀ (b : Nat) (x : Int), maxQ rs k = b → ss[b]? = some x → giveQ (j + 1) (F, R) = (ss.set b (x + 1), rs.set b (-1, 1)) by
              intro b x hb hx
              rw [← hrs] at hb
              rw [← hss] at hx
              have := giveQ_step (s := (F, R)) (k := j) (b := b) (x := x) (by rw [← hb, LRR.out]) hx
              rw [this, hss, hrs])
            rw [hrs, hss] at hcs
            clear hrs hss
            obtain ⟨w5, rfl⟩ : ∃ w5 : World, w5 = wr := ⟨_, rfl⟩
            obtain ⟨zz1, zz2⟩ : G1 < w5.heap.size ∧ G2 < w5.heap.size := ⟨hcs.out.z1, hcs.out.z2⟩
            go_wp2_with fail
            go_loopw [13, 69] (fun t u wr => ∃ i : Nat, t = .int .i64 (maxQ rs i : Nat) ∧ u = .int .i64 i ∧ i ≤ k ∧ Hid (Below w5.heap.size w5 wr)) (fun _ u _ => k - (intOf u).toNat)
            case atStart => exact ⟨0, rfl, rfl, Nat.zero_le _, Lib.hid (Below.refl _ _)⟩
            case round =>
              obtain ⟨i, rfl, rfl, hik, hbw⟩ := hrel
              by_cases hlt3 : i < k
              · obtain ⟨v, hv⟩ : ∃ v, maxQ rs i = v := ⟨_, rfl⟩
                have HB := Lib.hid hv
                have hvl : v < k := by rw [← hv]; exact maxQ_lt rs hik (by omega)
                rw [hv]
                clear hv
                have i1 : (i : Int) < (k : Int) := by omega
                have i2 : (0 : Int) ≤ (i : Int) := by omega
                have i3 : (v : Int) < (k : Int) := by omega
                have i4 : (0 : Int) ≤ (v : Int) := by omega
                obtain ⟨x, y, hxy⟩ := get_q (qs := rs) (k := i) (by rw [LRS.out]; exact hlt3)
                obtain ⟨x', y', hxy'⟩ := get_q (qs := rs) (k := v) (by rw [LRS.out]; exact hvl)
                have S1 := Lib.hid (SM.out (x, y) (List.mem_of_getElem? hxy))
                have S2 := Lib.hid (SM.out (x', y') (List.mem_of_getElem? hxy'))
                have HBS := Lib.hid (show maxQ rs (i + 1) = if 0 < cmpI (x * y') (x' * y) then i else v by
                  show (if 0 < cmpI ((getQ rs i).1 * (getQ rs (maxQ rs i)).2) ((getQ rs (maxQ rs i)).1 * (getQ rs i).2) then i else maxQ rs i) = _
                  rw [HB.out, getQ_some hxy, getQ_some hxy'])
                have CW := Lib.hid (hcs.out.step hbw.out)
                obtain ⟨c0, c3, -, -⟩ := CW.out.cells2 hxy
                obtain ⟨c4, c5, -, -⟩ := (CW.out.step (below_al wr (.cells #[.int .i64 x, .int .i64 y] 48))).cells2 hxy'
                have BX := Lib.hid (below_step hbw.out (below_al wr (.cells #[.int .i64 x, .int .i64 y] 48)) hbw.out.size)
                clear hxy hxy'
                go_wp2_with fail
                have RX := Lib.hid (R2.new wr x y)
                obtain ⟨wx, hwx⟩ : ∃ wx : World, wx = (wr.alloc (.cells #[.int .i64 x, .int .i64 y] 48)) := ⟨_, rfl⟩
                obtain ⟨gx, hgx⟩ : ∃ gx : Nat, gx = wr.heap.size := ⟨_, rfl⟩
                rw [← hwx, ← hgx]
                rw [← hwx] at c4 c5 BX
                rw [← hwx, ← hgx] at RX
                clear hwx hgx c0 c3
                obtain ⟨q0, q1, -, -⟩ := RX.out.cells
                go_still_tail 5, (by kernel_rfl)
                change wpList _ _ _ _ _ wx.drew
                go_wp2_with fail
                refine (impl_compareRatios_c _ _ _ _ _ S1.out S2.out).mono ?_
                rintro e w3 ⟨rfl, b3⟩
                have B3 := Lib.hid (below_step BX.out.drew b3 BX.out.drew.size)
                clear b3 c4 c5 q0 q1
                obtain ⟨cv, hcv⟩ : ∃ cv, cmpI (x * y') (x' * y) = cv := ⟨_, rfl⟩
                rw [hcv] at HBS
                rw [hcv]
                clear hcv
                by_cases hc : 0 < cv
                · have HS2 := Lib.hid (show maxQ rs (i + 1) = i by rw [HBS.out, if_pos hc])
                  go_wp2_with fail
                  go_roundw
                  case rel => exact ⟨i + 1, by rw [HS2.out], by go_num, by omega, B3⟩
                  case measure => simp [intOf]; omega
                · have HS2 := Lib.hid (show maxQ rs (i + 1) = v by rw [HBS.out, if_neg hc])
                  go_wp2_with fail
                  go_roundw
                  case rel => exact ⟨i + 1, by rw [HS2.out], by go_num, by omega, B3⟩
                  case measure => simp [intOf]; omega
              · obtain rfl : i = k := by omega
                obtain ⟨b, hb⟩ : ∃ b, maxQ rs i = b := ⟨_, rfl⟩
                have hbl : b < i := by rw [← hb]; exact maxQ_lt rs (Nat.le_refl _) (by omega)
                obtain ⟨x, hx⟩ := get_some (zs := ss) (k := b) (by rw [LSS.out]; exact hbl)
                obtain ⟨y, y', hy⟩ := get_q (qs := rs) (k := b) (by rw [LRS.out]; exact hbl)
                obtain ⟨x0, x1⟩ := BD.out x (List.mem_of_getElem? hx)
                have HST := Lib.hid (ST.out b x hb hx)
                have CW := Lib.hid (hcs.out.step hbw.out)
                obtain ⟨c0, c1⟩ := CW.out.cells1 hx
                have C1 := Lib.hid (CW.out.set1 (j := b) (by rw [LSS.out]; exact hbl) (x + 1))
                obtain ⟨r0, r1, r2, r3⟩ := C1.out.cells2 hy
                have C2 := Lib.hid (C1.out.set2 (j := b) (by rw [LRS.out]; exact hbl) (-1) 1)
                have i1 : (b : Int) < (i : Int) := by omega
                have i2 : (0 : Int) ≤ (b : Int) := by omega
                have jb : (j : Int) ≤ 6000000000 := by omega
                rw [hb]
                clear hb hx hy
                go_wp2_with fail
                go_roundw
                case rel => exact ⟨j + 1, by go_num, by omega, by rw [HST.out]; exact C2⟩
                case measure => simp [intOf]; omega
          · have hje : j = L.toNat := by omega
            have HV2 := Lib.hid (show mcV S P = (giveQ j (F, R)).1 by rw [HV.out, hje])
            have HLl := Lib.hid (show (giveQ j (F, R)).1.length = k by rw [(GL.out j).1]; exact LF.out)
            have hz := hcs.out.z1
            have hB := hcs.out.below
            have hw1 := B1.out.size
            clear hje
            go_wp2_with fail
            go_ret2
            rw [HV2.out, HE.out]
            exact LR.mk rfl HLl.out (by omega) (hcs.out.s.widen (by omega) (by omega)) (below_step B1.out hB B1.out.size)
  · have HV := Lib.hid (show mcV S P = [] by unfold mcV; rw [if_neg hE])
    obtain ⟨E, hE2⟩ : ∃ E, feE S P = E := ⟨_, rfl⟩
    rw [hE2] at hE
    have HE := Lib.hid hE2
    have hB : (E == 0) = false := by simp [hE]
    have hB2 : (E != 0) = true := by simp [hE]
    rw [HE.out]
    clear hE2
    go_enter Try.func15, Try.ntmps15
    go_wp2_with fail
    refine (impl_FieldEquities_c A n c S B m d P _ HN.out hm hr HN'.out hm' hr' hmd).mono ?_
    rintro e w1 ⟨G, g1, c1, rfl, hl1, hm1, ho1, b1⟩
    rw [HE.out]
    go_wp2_with fail
    go_ret2
    rw [HV.out]
    exact LR.mk rfl rfl (Nat.zero_le _) (OI.nil _ _ _ _) b1
end Go.Proofs.Ythpgkngkmmameaa
