/-
  PROVED: 'FnTournaments' returns true for every input and leaves its arguments as they were. Conditions: none but the statement's own.
-/
import Derived.Test.YtoibjedpniepbaaFrame
import Derived.Test.YtoibjedpniepbaaArgB
import Derived.Test.YtoibjedpniepbaaTourFacts
import Derived.Test.YtoibjedpniepbaaIcmTop
import Derived.Test.YtoibjedpniepbaaIcmSpec
import Derived.Test.YtoibjedpniepbaaDrawIcm
import Derived.Test.YtoibjedpniepbaaLikeQ
import Derived.Test.YtoibjedpniepbaaLawSum
import Derived.Test.YtoibjedpniepbaaQuiet
namespace Go.Proofs.Ytoibjedpniepbaa.fnTournaments
open Go.ChangeShapes Go.WideShapes Go.ChangeAt Go.RowKit
open Go.ChangeMaps (open_string shut_string)
set_option linter.unusedVariables false

set_option maxRecDepth 20000 in
set_option maxHeartbeats 20000000 in
/-- THE WALK. -/
theorem walk (a0 : Option Addr) (len0 cap0 : Nat) (z0 : List Int) (w : World) (w0 : IsRow .u8 w a0 len0 cap0 z0) :
    Calls Try.prog 12 #[.slice a0 len0 cap0] w fun e w' => e = .returned (.bool true) ∧ Below w.heap.size w w' := by
  have hr := isRow_br w0
  have hl := isRow_len w0
  clear w0
  generalize z0.take len0 = bs at hr hl
  by_cases hbig : 4096 < len0
  · have HB := decide_eq_true hbig
    clear hbig
    go_enter Try.func12, Try.ntmps12
    go_wp2_with fail
    refine (laws_big_c _ _ _ _).mono ?_
    rintro e w' ⟨rfl, rfl⟩
    go_wp2_with fail
    go_ret
    exact ⟨rfl, Below.refl _ _⟩
  have hm : len0 ≤ 1048576 := by omega
  have HB := decide_eq_false hbig
  clear hbig
  have HL := Lib.hid hl
  clear hl
  have b0 := Lib.hid (Below.refl w.heap.size w)
  go_enter Try.func12, Try.ntmps12
  go_wp2_with fail
  refine (laws_big_c _ _ _ _).mono ?_
  rintro e w' ⟨rfl, rfl⟩
  go_wp2_with fail
  refine (spec_DrawFieldEquities_c a0 len0 cap0 bs _ HL.out hm (hr.below b0.out)).mono ?_
  rintro e w1 ⟨A, n, d, zs, B, m, e, ps, rfl, hD⟩
  have hb1 := hD.below
  have B1 := Lib.hid (below_step b0.out hb1 b0.out.size)
  clear hb1
  have RS := hD.r
  have RP := hD.r'
  go_wp2_with fail
  refine (impl_FieldEquities_c A n d zs B m e ps _ hD.l.out hD.n1 RS.out hD.l'.out hD.m1 RP.out hD.md).mono ?_
  rintro e w2 ⟨G1, n1, d1, rfl, hl1, hm1, ho1, hb2⟩
  have B2 := Lib.hid (below_step B1.out hb2 B1.out.size)
  replace RS := Lib.hid (RS.out.below hb2)
  replace RP := Lib.hid (RP.out.below hb2)
  clear hb2
  have R1 := Lib.hid ho1.ri
  clear ho1
  go_wp2_with fail
  refine (spec_FieldEquities_c A n d zs B m e ps _ hD.l.out hD.n1 RS.out hD.l'.out hD.m1 RP.out hD.md).mono ?_
  rintro e w3 ⟨G2, n2, d2, rfl, hl2, hm2, ho2, hb3⟩
  have B3 := Lib.hid (below_step B2.out hb3 B2.out.size)
  replace RS := Lib.hid (RS.out.below hb3)
  replace RP := Lib.hid (RP.out.below hb3)
  replace R1 := Lib.hid (R1.out.below hb3)
  clear hb3
  have R2' := Lib.hid ho2.ri
  clear ho2
  go_wp2_with fail
  refine (spec_DrawEquityOf_c a0 len0 cap0 bs _ HL.out hm (hr.below B3.out)).mono ?_
  rintro e w4 ⟨A3, n3, d3, ss, B3', m3, e3, ts, p, rfl, hD3⟩
  have hb4 := hD3.below
  have B4 := Lib.hid (below_step B3.out hb4 B3.out.size)
  replace RS := Lib.hid (RS.out.below hb4)
  replace RP := Lib.hid (RP.out.below hb4)
  replace R1 := Lib.hid (R1.out.below hb4)
  replace R2' := Lib.hid (R2'.out.below hb4)
  clear hb4
  have RS3 := hD3.r
  have RP3 := hD3.r'
  go_wp2_with fail
  refine (impl_EquityOf_c A3 n3 d3 ss B3' m3 e3 ts p _ hD3.l.out hD3.n1 RS3.out hD3.l'.out hD3.m1 RP3.out hD3.md).mono ?_
  rintro e w5 ⟨rfl, hb5⟩
  have B5 := Lib.hid (below_step B4.out hb5 B4.out.size)
  replace RS := Lib.hid (RS.out.below hb5)
  replace RP := Lib.hid (RP.out.below hb5)
  replace R1 := Lib.hid (R1.out.below hb5)
  replace R2' := Lib.hid (R2'.out.below hb5)
  replace RS3 := Lib.hid (RS3.out.below hb5)
  replace RP3 := Lib.hid (RP3.out.below hb5)
  clear hb5
  replace RS := Lib.hid (RS.out.alloc (.cells #[.int .i64 (eoN ss ts p), .int .i64 (eoD ss ts p)] 31 (0, 0)))
  replace RP := Lib.hid (RP.out.alloc (.cells #[.int .i64 (eoN ss ts p), .int .i64 (eoD ss ts p)] 31 (0, 0)))
  replace R1 := Lib.hid (R1.out.alloc (.cells #[.int .i64 (eoN ss ts p), .int .i64 (eoD ss ts p)] 31 (0, 0)))
  replace R2' := Lib.hid (R2'.out.alloc (.cells #[.int .i64 (eoN ss ts p), .int .i64 (eoD ss ts p)] 31 (0, 0)))
  replace RS3 := Lib.hid (RS3.out.alloc (.cells #[.int .i64 (eoN ss ts p), .int .i64 (eoD ss ts p)] 31 (0, 0)))
  replace RP3 := Lib.hid (RP3.out.alloc (.cells #[.int .i64 (eoN ss ts p), .int .i64 (eoD ss ts p)] 31 (0, 0)))
  have T1 := Lib.hid (R2.new w5 (eoN ss ts p) (eoD ss ts p))
  have C5 := Lib.hid (B5.out.alloc B5.out.size (.cells #[.int .i64 (eoN ss ts p), .int .i64 (eoD ss ts p)] 31 (0, 0)))
  go_wp2_with fail
  refine (spec_EquityOf_c A3 n3 d3 ss B3' m3 e3 ts p _ hD3.l.out hD3.n1 RS3.out hD3.l'.out hD3.m1 RP3.out hD3.md).mono ?_
  rintro e w6 ⟨rfl, hb6⟩
  have B6 := Lib.hid (below_step C5.out hb6 C5.out.size)
  replace RS := Lib.hid (RS.out.below hb6)
  replace RP := Lib.hid (RP.out.below hb6)
  replace R1 := Lib.hid (R1.out.below hb6)
  replace R2' := Lib.hid (R2'.out.below hb6)
  replace RS3 := Lib.hid (RS3.out.below hb6)
  replace RP3 := Lib.hid (RP3.out.below hb6)
  replace T1 := Lib.hid (T1.out.below hb6)
  clear hb6
  replace RS := Lib.hid (RS.out.alloc (.cells #[.int .i64 (eoN ss ts p), .int .i64 (eoD ss ts p)] 31 (0, 0)))
  replace RP := Lib.hid (RP.out.alloc (.cells #[.int .i64 (eoN ss ts p), .int .i64 (eoD ss ts p)] 31 (0, 0)))
  replace R1 := Lib.hid (R1.out.alloc (.cells #[.int .i64 (eoN ss ts p), .int .i64 (eoD ss ts p)] 31 (0, 0)))
  replace R2' := Lib.hid (R2'.out.alloc (.cells #[.int .i64 (eoN ss ts p), .int .i64 (eoD ss ts p)] 31 (0, 0)))
  replace RS3 := Lib.hid (RS3.out.alloc (.cells #[.int .i64 (eoN ss ts p), .int .i64 (eoD ss ts p)] 31 (0, 0)))
  replace RP3 := Lib.hid (RP3.out.alloc (.cells #[.int .i64 (eoN ss ts p), .int .i64 (eoD ss ts p)] 31 (0, 0)))
  replace T1 := Lib.hid (T1.out.alloc (.cells #[.int .i64 (eoN ss ts p), .int .i64 (eoD ss ts p)] 31 (0, 0)))
  have T2 := Lib.hid (R2.new w6 (eoN ss ts p) (eoD ss ts p))
  have C6 := Lib.hid (B6.out.alloc B6.out.size (.cells #[.int .i64 (eoN ss ts p), .int .i64 (eoD ss ts p)] 31 (0, 0)))
  obtain ⟨T1a, T1b, -, -⟩ := T1.out.cells
  have T1z := T1.out.lt
  obtain ⟨T2a, T2b, -, -⟩ := T2.out.cells
  have T2z := T2.out.lt
  go_wp2_with fail
  refine (laws_likeRatios_c G1 G2 n1 n2 d1 d2 (feL zs ps) _ hl1.out hl2.out hm1 R1.out R2'.out).mono ?_
  rintro e w7 ⟨rfl, hb7⟩
  have B7 := Lib.hid (below_step C6.out hb7 C6.out.size)
  replace RS := Lib.hid (RS.out.below hb7)
  replace RP := Lib.hid (RP.out.below hb7)
  replace R1 := Lib.hid (R1.out.below hb7)
  replace R2' := Lib.hid (R2'.out.below hb7)
  replace RS3 := Lib.hid (RS3.out.below hb7)
  replace RP3 := Lib.hid (RP3.out.below hb7)
  replace T1 := Lib.hid (T1.out.below hb7)
  replace T2 := Lib.hid (T2.out.below hb7)
  clear hb7
  clear T1a T1b T1z T2a T2b T2z
  obtain ⟨T1a, T1b, -, -⟩ := T1.out.cells
  have T1z := T1.out.lt
  obtain ⟨T2a, T2b, -, -⟩ := T2.out.cells
  have T2z := T2.out.lt
  go_wp2_with (first | (go_at_call 17; refine (impl_IsField_c A n d zs _ hD.l.out hD.n1 RS.out).mono ?_; rintro e w' ⟨rfl, rfl⟩) | (go_at_call 15; refine (spec_IsField_c A n d zs _ hD.l.out hD.n1 RS.out).mono ?_; rintro e w' ⟨rfl, rfl⟩))
  refine (impl_ArePrizes_b A n d zs B m e ps _ hD.l.out hD.n1 RS.out hD.l'.out hD.m1 RP.out).mono ?_
  rintro e w8 ⟨rfl, hb8⟩
  have B8 := Lib.hid (below_step B7.out hb8 B7.out.size)
  replace RS := Lib.hid (RS.out.below hb8)
  replace RP := Lib.hid (RP.out.below hb8)
  replace R1 := Lib.hid (R1.out.below hb8)
  clear hb8 T1a T1b T1z T2a T2b T2z
  go_wp2_with fail
  refine (spec_ArePrizes_b A n d zs B m e ps _ hD.l.out hD.n1 RS.out hD.l'.out hD.m1 RP.out).mono ?_
  rintro e w9 ⟨rfl, hb9⟩
  have B9 := Lib.hid (below_step B8.out hb9 B8.out.size)
  replace RS := Lib.hid (RS.out.below hb9)
  replace RP := Lib.hid (RP.out.below hb9)
  replace R1 := Lib.hid (R1.out.below hb9)
  clear hb9 R2' RS3 RP3
  by_cases hE : feE zs ps = 0
  · obtain ⟨k1, k2, k3, k4, k5, k6, k7, k8⟩ := tour_fact hE
    obtain rfl : n1 = n := by have := hl1.out; have := hD.l.out; omega
    have n5 : n1 ≤ 5 := by have := hD.l.out; omega
    have HZS := Lib.hid hD.l.out
    have HPL := Lib.hid hD.l'.out
    have hm1' := hD.m1
    have HPS := Lib.hid k4
    have HSB := Lib.hid k3
    have HV := Lib.hid k6
    have HC := Lib.hid k7
    have HT := Lib.hid k8
    rw [hE]
    clear hE k1 k2 k3 k4 k5 k6 k7 k8 hD hD3
    obtain ⟨es, hes⟩ : ∃ es, es = feL zs ps := ⟨_, rfl⟩
    rw [← hes] at hl1 R1 HV HC
    clear hes
    go_wp2_with fail
    obtain ⟨gt, hgt⟩ : ∃ gt : Nat, gt = w9.heap.size := ⟨_, rfl⟩
    have T5 : Hid (R2 (w9.alloc (.cells #[.int .i64 0, .int .i64 1] 31)) gt 0 1) := Lib.hid (by rw [hgt]; exact R2.new w9 0 1)
    have HGT := Lib.hid hgt
    rw [← hgt]
    clear hgt
    go_loopw [17] (fun u wr => ∃ (k : Nat) (N D : Int), u = .int .i64 k ∧ k ≤ n1 ∧ Hid (totQ (fun i => icm ps zs i) k = some (N, D)) ∧ Hid (isR N D = true) ∧ Hid (R2 wr gt N D) ∧ Hid (Below w9.heap.size w9 wr)) (fun u _ => n1 - (intOf u).toNat)
    case atStart => exact ⟨0, 0, 1, rfl, Nat.zero_le _, Lib.hid rfl, Lib.hid (okQ_whole (n := 0) (by omega) (by omega)), T5, Lib.hid (below_al w9 _)⟩
    case round =>
      obtain ⟨k, N, D, rfl, hk, hT, hR, hg, hbw⟩ := hrel
      by_cases hlt : k < n1
      · rcases R1.out.split with h0 | ⟨ge, rfl, hge, hc⟩
        · exfalso; have := hl1.out; omega
        obtain ⟨x, y, hxy⟩ := get_q (qs := es) (k := k) (by have := hl1.out; omega)
        obtain ⟨hr1, hic⟩ := HV.out k x y hxy
        have HR1 := Lib.hid hr1
        have HIC := Lib.hid hic
        have HXY := Lib.hid hxy
        obtain ⟨p0, p1⟩ := hc.out k x y hxy
        have c0 := (hbw.out.cell (p := ⟨ge, k * 2, none⟩) hge).trans p0
        have c1 := (hbw.out.cell (p := ⟨ge, k * 2 + 1, none⟩) hge).trans p1
        obtain ⟨q0, q1, -, -⟩ := hg.out.cells
        have gtl := hg.out.lt
        have ger : ge < wr.heap.size := Nat.lt_of_lt_of_le hge hbw.out.size
        have i1 : (k : Int) < (n1 : Int) := by omega
        have i2 : (0 : Int) ≤ (k : Int) := by omega
        clear hr1 hic hxy p0 p1
        go_wp2_with fail
        go_cut [18, 19] (fun s18 s19 wc => ∃ gm : Nat, s18 = .pointer (some ⟨gm, 0, none⟩) ∧ s19 = .int .i64 (redE (N * y + x * D) (D * y)) ∧ Hid (R2 wc gm (redN (N * y + x * D) (D * y)) (redD (N * y + x * D) (D * y))) ∧ Hid (Below wr.heap.size wr wc) ∧ wr.heap.size ≤ gm)
        case first =>
          have mk : ∀ w' : World, Below wr.heap.size wr w' → w'.cell? ⟨gt, 0, none⟩ = some (.int .i64 N) ∧ w'.cell? ⟨gt, 1, none⟩ = some (.int .i64 D) ∧ (w'.cell? ⟨ge, k * 2, none⟩ = some (.int .i64 x) ∧ w'.cell? ⟨ge, k * 2 + 1, none⟩ = some (.int .i64 y)) ∧ Below wr.heap.size wr w' := fun w' hB => ⟨(hB.cell (p := ⟨gt, 0, none⟩) gtl).trans q0, (hB.cell (p := ⟨gt, 1, none⟩) gtl).trans q1, ⟨(hB.cell (p := ⟨ge, k * 2, none⟩) ger).trans c0, (hB.cell (p := ⟨ge, k * 2 + 1, none⟩) ger).trans c1⟩, hB⟩
          have MK := Lib.hid mk
          have HRX := Lib.hid (R2.new wr 0 0)
          clear mk
          go_wp2_with fail
          go_region_held3 (fun w' => w'.cell? ⟨gt, 0, none⟩ = some (.int .i64 N) ∧ w'.cell? ⟨gt, 1, none⟩ = some (.int .i64 D) ∧ (w'.cell? ⟨ge, k * 2, none⟩ = some (.int .i64 x) ∧ w'.cell? ⟨ge, k * 2 + 1, none⟩ = some (.int .i64 y)) ∧ Below wr.heap.size wr w')
            ((first
              | exact MK.out _ (Below.refl _ _).drew
              | exact MK.out _ (bel_al (Below.refl _ _) _).drew
              | exact MK.out _ (bel_al (fourth (by assumption)) _)
              | exact MK.out _ B2
              | exact MK.out _ (bel_al B2 _)
              | exact MK.out _ (fourth (by assumption))
              | exact MK.out _ (bel_two B2 (by first | exact Nat.le_refl _ | exact B2.size) (by first | exact Nat.le_refl _ | exact B2.size))))
            ((first
              | (go_at_call 42; refine (impl_AddRatios_c _ _ _ _ _ hR.out HR1.out).mono ?_; rintro e w2 ⟨rfl, b2⟩; have B2 : Below wr.heap.size wr w2 := (by first | exact bel_st (w := wr.drew) (Below.refl _ _).drew b2 | exact bel_st (w := (wr.alloc (.cells #[.int .i64 0, .int .i64 0] 31)).drew) (bel_al (Below.refl _ _) _).drew b2); (try (have Q2 : R2 w2 wr.heap.size 0 0 := R2.below (w := (wr.alloc (.cells #[.int .i64 0, .int .i64 0] 31)).drew) (R2.drew HRX.out) b2; obtain ⟨q0, q1, f0, f1⟩ := Q2.cells)))))
          all_goals
            go_wp2_with fail
            go_meet
            first
              | exact ⟨w2.heap.size, rfl, rfl, Lib.hid (R2.new w2 _ _), Lib.hid (bel_al B2 _), B2.size⟩
              | exact ⟨wr.heap.size, rfl, rfl, Lib.hid Q2.store, Lib.hid (bel_two B2 (Nat.le_refl _) (Nat.le_refl _)), Nat.le_refl _⟩
        case rest =>
          obtain ⟨gm, rfl, rfl, hgm, hbc, hgml⟩ := hcut
          obtain ⟨w3, rfl⟩ : ∃ w3 : World, w3 = wc := ⟨_, rfl⟩
          have B3' := Lib.hid (below_step hbw.out hbc.out hbw.out.size)
          have hg3 := Lib.hid (hg.out.below hbc.out)
          obtain ⟨-, -, d0, d1', -⟩ := isR_iff.1 hR.out
          obtain ⟨-, -, b0', b1', -⟩ := isR_iff.1 HR1.out
          clear hbc hg q0 q1 c0 c1 gtl ger
          rcases red_cases (N * y + x * D) (D * y) with ⟨he, hq⟩ | ⟨he, hN0, hD0, hq⟩
          · rw [he]
            have hdd : 0 < D * y := Int.mul_pos (by omega) (by omega)
            have hRn : isR (redN (N * y + x * D) (D * y)) (redD (N * y + x * D) (D * y)) = true := (ratQ_val hdd hq).1
            obtain ⟨N2, hN2⟩ : ∃ N2, redN (N * y + x * D) (D * y) = N2 := ⟨_, rfl⟩
            obtain ⟨D2, hD2⟩ : ∃ D2, redD (N * y + x * D) (D * y) = D2 := ⟨_, rfl⟩
            rw [hN2, hD2] at hRn hq hgm
            have HR2 := Lib.hid hRn
            have HT2 := Lib.hid (show totQ (fun i => icm ps zs i) (k + 1) = some (N2, D2) by
              unfold totQ
              rw [hT.out, HIC.out, ← hq]
              rfl)
            obtain ⟨q0, q1, -, -⟩ := hgm.out.cells
            obtain ⟨r0, r1, r2, r3⟩ := hg3.out.cells
            have gml := hgm.out.lt
            have gtl := hg3.out.lt
            have gg : w9.heap.size ≤ gt := by rw [HGT.out]; exact Nat.le_refl _
            clear he hq hdd hN2 hD2 hRn d0 d1' b0' b1'
            go_wp2_with fail
            have B4 := Lib.hid ((B3'.out.setCell (p := ⟨gt, 0, none⟩) gg (.int .i64 N2)).setCell (p := ⟨gt, 1, none⟩) gg (.int .i64 D2))
            have hg4 := Lib.hid (hg3.out.store (u := N2) (v := D2))
            clear q0 q1 r0 r1 r2 r3 gml gtl
            obtain ⟨w4, hw4⟩ : ∃ w4 : World, w4 = (w3.setCell ⟨gt, 0, none⟩ (.int .i64 N2)).setCell ⟨gt, 1, none⟩ (.int .i64 D2) := ⟨_, rfl⟩
            rw [← hw4] at B4 hg4
            rw [← hw4]
            clear hw4
            go_loopw [20] (fun v wv => ∃ j : Nat, v = .int .i64 j ∧ j ≤ n1 ∧ Hid (Below w4.heap.size w4 wv)) (fun v _ => n1 - (intOf v).toNat)
            case atStart => exact ⟨0, rfl, Nat.zero_le _, Lib.hid (Below.refl _ _)⟩
            case round =>
              obtain ⟨j, rfl, hj, hbv⟩ := hrel
              have B5 := Lib.hid (below_step B4.out hbv.out B4.out.size)
              by_cases hlj : j < n1
              · obtain ⟨x', y', hxy'⟩ := get_q (qs := es) (k := j) (by have := hl1.out; omega)
                have HRJ := Lib.hid (HV.out j x' y' hxy').1
                obtain ⟨s, hs⟩ := get_some (zs := zs) (k := k) (by have := HZS.out; omega)
                obtain ⟨t, ht⟩ := get_some (zs := zs) (k := j) (by have := HZS.out; omega)
                have HCMP := Lib.hid (HC.out k j s t x y x' y' HXY.out hxy' hs ht)
                rcases RS.out.split with h0 | ⟨gz, oz, rfl, hgz, hcz⟩
                · exfalso; have := HZS.out; omega
                obtain ⟨p0, p1⟩ := hc.out k x y HXY.out
                obtain ⟨p2, p3⟩ := hc.out j x' y' hxy'
                have c0 := (B5.out.cell (p := ⟨ge, k * 2, none⟩) hge).trans p0
                have c1 := (B5.out.cell (p := ⟨ge, k * 2 + 1, none⟩) hge).trans p1
                have c2 := (B5.out.cell (p := ⟨ge, j * 2, none⟩) hge).trans p2
                have c3 := (B5.out.cell (p := ⟨ge, j * 2 + 1, none⟩) hge).trans p3
                have HGZ := Lib.hid hgz
                have HS1 := Lib.hid (hcz.out k s hs)
                have HS2 := Lib.hid (hcz.out j t ht)
                have j1 : (j : Int) < (n1 : Int) := by omega
                have j2 : (0 : Int) ≤ (j : Int) := by omega
                clear hxy' hs ht p0 p1 p2 p3 hcz hgz
                have gev : ge < wr.heap.size := Nat.lt_of_lt_of_le hge B5.out.size
                go_wp2_with fail
                go_cut [21, 22] (fun s21 s22 wc => s21 = .int .i64 (cmpI (x * y') (x' * y)) ∧ s22 = .int .i64 0 ∧ Hid (Below wr.heap.size wr wc))
                case first =>
                  have mk : ∀ w' : World, Below wr.heap.size wr w' → w'.cell? ⟨ge, k * 2, none⟩ = some (.int .i64 x) ∧ w'.cell? ⟨ge, k * 2 + 1, none⟩ = some (.int .i64 y) ∧ (w'.cell? ⟨ge, j * 2, none⟩ = some (.int .i64 x') ∧ w'.cell? ⟨ge, j * 2 + 1, none⟩ = some (.int .i64 y')) ∧ Below wr.heap.size wr w' := fun w' hB => ⟨(hB.cell (p := ⟨ge, k * 2, none⟩) gev).trans c0, (hB.cell (p := ⟨ge, k * 2 + 1, none⟩) gev).trans c1, ⟨(hB.cell (p := ⟨ge, j * 2, none⟩) gev).trans c2, (hB.cell (p := ⟨ge, j * 2 + 1, none⟩) gev).trans c3⟩, hB⟩
                  have MK := Lib.hid mk
                  clear mk
                  go_wp2_with fail
                  go_region_held3 (fun w' => w'.cell? ⟨ge, k * 2, none⟩ = some (.int .i64 x) ∧ w'.cell? ⟨ge, k * 2 + 1, none⟩ = some (.int .i64 y) ∧ (w'.cell? ⟨ge, j * 2, none⟩ = some (.int .i64 x') ∧ w'.cell? ⟨ge, j * 2 + 1, none⟩ = some (.int .i64 y')) ∧ Below wr.heap.size wr w')
                    ((first
                      | exact MK.out _ (Below.refl _ _).drew
                      | exact MK.out _ B2
                      | exact MK.out _ (fourth (by assumption))))
                    ((first
                      | (go_at_call 46; refine (impl_CompareRatios_c _ _ _ _ _ HR1.out HRJ.out).mono ?_; rintro e w2 ⟨rfl, b2⟩; have B2 : Below wr.heap.size wr w2 := bel_st (w := wr.drew) (Below.refl _ _).drew b2)))
                  all_goals
                    go_wp2_with fail
                    go_meet
                    exact ⟨rfl, rfl, Lib.hid B2⟩
                case rest =>
                obtain ⟨rfl, rfl, hbc⟩ := hcut
                obtain ⟨w6, rfl⟩ : ∃ w6 : World, w6 = wc := ⟨_, rfl⟩
                have B6' := Lib.hid (below_step hbv.out hbc.out hbv.out.size)
                have B7' := Lib.hid (below_step B4.out B6'.out B4.out.size)
                clear hbc c0 c1 c2 c3
                have e1 := (B7'.out.cell (p := ⟨gz, oz + k, none⟩) HGZ.out).trans HS1.out
                have e2 := (B7'.out.cell (p := ⟨gz, oz + j, none⟩) HGZ.out).trans HS2.out
                obtain ⟨cv, hcv⟩ : ∃ cv, cmpI (x * y') (x' * y) = cv := ⟨_, rfl⟩
                rw [hcv] at HCMP
                rw [hcv]
                clear hcv
                have d1 := HCMP.out
                by_cases hst : t ≤ s
                · have d2 := d1 hst
                  clear d1
                  go_wp2_with fail
                  go_quiet (fail)
                  clear e1 e2
                  go_wp2_with fail
                  go_roundw
                  case rel => exact ⟨j + 1, by go_num, by omega, Lib.hid (below_drewN B6'.out _)⟩
                  case measure => simp [intOf]; omega
                · clear d1
                  have hst1 : s < t := by omega
                  have hst2 : decide (t ≤ s) = false := decide_eq_false hst
                  clear hst
                  go_wp2_with fail
                  go_quiet (fail)
                  clear e1 e2
                  go_wp2_with fail
                  go_roundw
                  case rel => exact ⟨j + 1, by go_num, by omega, Lib.hid (below_drewN B6'.out _)⟩
                  case measure => simp [intOf]; omega
              · go_wp2_with fail
                go_roundw
                case rel => exact ⟨k + 1, N2, D2, by go_num, by omega, HT2, HR2, Lib.hid (hg4.out.below hbv.out), B5⟩
                case measure => simp [intOf]; omega
          · rw [he]
            clear he hN0 hD0 hq
            go_wp2_with fail
            go_ret
            exact ⟨rfl, below_step B9.out B3'.out B9.out.size⟩
      · have hke : k = zs.length := by have := HZS.out; omega
        have h1 := HT.out _ (by rw [← hke]; exact hT.out)
        injection h1 with e1 e2
        subst e1 e2
        obtain ⟨q0, q1, -, -⟩ := hg.out.cells
        have RPW := Lib.hid (RP.out.below hbw.out)
        clear hke
        go_wp2_with fail
        go_quiet ((go_at_call 47; exact quiet_left (laws_sum_c _ _ _ ps _ HPL.out hm1' (RPW.out.drewN _) HPS)))
        go_wp2_with fail
        go_ret
        exact ⟨rfl, below_drewN (below_step B9.out hbw.out B9.out.size) _⟩
  · have hB : (feE zs ps != 0) = true := by simp [hE]
    go_wp2_with fail
    go_ret
    exact ⟨rfl, B9.out⟩

set_option maxRecDepth 100000 in
theorem lifted (os : Os) (started : os.Started) (H : Type) (enc : TypeId × Value → H) :
    ReturnsInHanded {} Try.checked os 12 .any (Rows.fnTournamentsSpec.pre6 enc Try.prog Try.f12 Rows.fnTournamentsRow.domain false) (Rows.fnTournamentsSpec.post enc Try.prog Try.f12 false true false false) := by
  refine returnsInHanded_of_change (C := Try.checked) own started (by kernel_rfl) Try.func12
    (ChangeSpec.witness6 (enc := enc) (C := Try.checked) false ⟨#[], #[.slice none 0 0], []⟩ 8 (by kernel_rfl) (by kernel_rfl) (by kernel_rfl) (by kernel_rfl)) ?_
  intro W base args ds gs before hval0 hW hcnd _
  have hval : ∀ (j : Nat) t v, Try.f12.params[j]? = some t → args[j]? = some v → Value.okWide Try.prog W .any base t v := hval0
  have hW' := hW
  obtain ⟨p, q, hA0, hV, rfl, hfz, hnd⟩ := hW
  have hA : DataW.TrodAll enc Try.prog W 0 (fun _ => true) true Try.f12.params.toList args.toList ds p := hA0
  rw [Try.params12] at hA hval
  obtain ⟨v0, vs0, d0, ds0, p0, q0, hargs, rfl, rfl, h0, r0⟩ := trodAll_cons hA
  obtain ⟨rfl, rfl, rfl⟩ := trodAll_nil r0
  obtain rfl : args = #[v0] := by cases args; simp_all
  obtain ⟨rfl, rfl⟩ := trodVars_none hV
  obtain ⟨a0, len0, cap0, rfl⟩ := okWide_slice Try.underlying45 (hval 0 45 v0 rfl rfl)
  have k0 := h0
  have lt0 : ∀ x ∈ p0, x.block < W.heap.size := by obtain ⟨m, hm⟩ := k0; exact DataW.trod_lt m _ _ _ hm
  obtain ⟨z0, w0⟩ : ∃ zs, IsRow .u8 W a0 len0 cap0 zs := by
    obtain ⟨fuel, hf⟩ := h0
    rcases open_ints Try.underlying45 Try.underlying5 (by kernel_rfl) hf with ⟨hcs, _⟩ | ⟨x, l, c, zs, hcs, _, hl, hm, hz, _, hcell, hwz⟩
    · simp [Value.cells] at hcs
      obtain ⟨rfl, rfl, rfl⟩ := hcs
      exact ⟨[], .inl ⟨rfl, rfl, rfl, rfl⟩⟩
    · simp [Value.cells] at hcs
      obtain ⟨rfl, rfl, rfl⟩ := hcs
      exact ⟨zs, .inr ⟨_, rfl, hl, hm, by simpa using hz, hcell, hwz⟩⟩
  clear hA0 hval0
  refine (walk a0 len0 cap0 z0 W w0).mono fun e W' ⟨he, bel⟩ => ?_
  subst he
  exact ⟨_, rfl, _, _, _, [], _, [], hW', trodAll_mk1 (shut_bool Try.underlying4 _), (trodAll_cons_mk (Below.trod laidOut (by kernel_rfl) (of_decide_eq_true (by kernel_rfl)) k0 bel lt0) trodAll_mk0), rfl, bel.frame _, fun h => by cases h⟩

theorem over : Rows.fnTournamentsRow.holds Try.pinned (OpenSpec.ofChange Rows.fnTournamentsSpec) :=
  OpenClaim.holds_of_wide 12 Try.f12 rfl rfl rfl rfl rfl rfl rfl ⟨rfl, rfl, rfl, rfl, rfl⟩ rfl rfl rfl rfl rfl (by kernel_rfl) Try.func12 (by kernel_rfl)
    (of_decide_eq_true (by kernel_rfl)) (by unfold Func.isWrapper; first | (rw [if_pos (by decide +kernel)]; kernel_rfl) | (rw [if_neg (by decide +kernel)]; exact ⟨rfl, rfl⟩))
    (fun os started H enc _ => lifted os started H enc)

/-- THE STATEMENT. -/
theorem proved : Rows.FnTournamentsSaid := over
#print axioms proved
end Go.Proofs.Ytoibjedpniepbaa.fnTournaments
