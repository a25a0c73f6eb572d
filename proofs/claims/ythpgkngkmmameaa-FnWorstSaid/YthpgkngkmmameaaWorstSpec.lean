/-
  The contracts of the reference's l30Deal, l30Worst, IsAcceptable, WorstDeal. Conditions: at most 1048576 elements.
-/
import Derived.Test.YthpgkngkmmameaaAccept
import Derived.Test.YthpgkngkmmameaaNeg
namespace Go.Proofs.Ythpgkngkmmameaa
open Go.RowKit
set_option linter.unusedVariables false
def ldL (S P D : List Int) : List (Int × Int) := if deB S P D = 0 then feL S P else []
def ldE (S P D : List Int) : Int := if deB S P D = 0 then feE S P else deB S P D
theorem ld_code {S P D : List Int} {c : Int} (h : deB S P D = c) (hc : c ≠ 0) : ldL S P D = [] ∧ ldE S P D = c := by
  unfold ldL ldE
  rw [h, if_neg hc, if_neg hc]
  exact ⟨rfl, rfl⟩
theorem ld_zero {S P D : List Int} (h : deB S P D = 0) : ldL S P D = feL S P ∧ ldE S P D = feE S P := by
  unfold ldL ldE
  rw [if_pos h, if_pos h]
  exact ⟨rfl, rfl⟩
set_option maxRecDepth 100000 in
set_option maxHeartbeats 2000000 in
theorem spec_l30Deal_c (A : Option Addr) (n c : Nat) (S : List Int) (B : Option Addr) (m d : Nat) (P : List Int) (C : Option Addr) (l f : Nat) (D : List Int) (w : World) (hn : S.length = n) (hm : n ≤ 1048576) (hr : RI w A S) (hn' : P.length = m) (hm' : m ≤ 1048576) (hr' : RI w B P) (hn3 : D.length = l) (hm3 : l ≤ 1048576) (hr3 : RI w C D) (hmd : m ≤ d) :
    Calls Try.prog 147 #[.slice A n c, .slice B m d, .slice C l f] w (LQ w (ldL S P D) (ldE S P D)) := by
  have HN := Lib.hid hn
  have HN' := Lib.hid hn'
  have HN3 := Lib.hid hn3
  cases h1 : prizesB S P
  · have HV := Lib.hid (ld_code (S := S) (P := P) (D := D) (c := 1) (by simp [deB, h1]) (by decide))
    clear hn hn' hn3
    go_enter Try.func147, Try.ntmps147
    go_wp2_with fail
    refine (spec_ArePrizes_b _ _ _ S _ _ _ P _ HN.out hm hr HN'.out hm' hr').mono ?_
    rintro e w1 ⟨rfl, b1⟩
    rw [h1]
    clear h1
    go_wp2_with fail
    go_ret2
    rw [HV.out.1, HV.out.2]
    exact LQ.mk rfl rfl (Nat.zero_le _) (OQ.nil _ _ _ _) b1
  have H1 := Lib.hid h1
  have hbP := smallL (by decide) (prizesB_iff.1 h1).2.2.2.1
  clear hn hn' hn3
  rcases hr3.split with hz | ⟨bd, od, rfl, hbd, hcd⟩
  all_goals
    go_enter Try.func147, Try.ntmps147
    go_wp2_with fail
    refine (spec_ArePrizes_b _ _ _ S _ _ _ P _ HN.out hm hr HN'.out hm' hr').mono ?_
    rintro e w1 ⟨rfl, b1⟩
    rw [H1.out]
    have B1 := Lib.hid b1
    have rS1 := Lib.hid (hr.below b1)
    have rP1 := Lib.hid (hr'.below b1)
    have rD1 := Lib.hid (hr3.below b1)
    clear b1
    go_wp2_with fail
    go_loop [8] (fun i => ∃ k : Nat, i = .int .i64 k ∧ k ≤ l ∧ (D.take k).all (fun x => inB x 0 1000000) = true) (fun i => l - (intOf i).toNat)
    case atStart => exact ⟨0, rfl, Nat.zero_le _, by simp⟩
    case round =>
      obtain ⟨k, rfl, hk, ha⟩ := hrel
      have HA := Lib.hid ha
      clear ha
      by_cases hlt : k < l
      · first
          | (exfalso; have := HN3.out; omega; done)
          | (obtain ⟨x, hx⟩ := get_some (zs := D) (k := k) (by rw [HN3.out]; exact hlt)
             have hcx := (B1.out.cell (p := ⟨bd, od + k, none⟩) hbd).trans (hcd.out k x hx)
             have HX := Lib.hid hx
             have i1 : (k : Int) < (l : Int) := by omega
             have i2 : (0 : Int) ≤ (k : Int) := by omega
             clear hx
             cases hs : inB x 0 1000000
             · have hf := allB_fail (p := fun x => inB x 0 1000000) HX.out hs
               have HV := Lib.hid (ld_code (S := S) (P := P) (D := D) (c := 2) (by
                 unfold deB allIn
                 rw [if_pos H1.out, hf, if_neg (by simp)]) (by decide))
               clear hf
               go_wp2_with (go_at_call 98; refine (spec_l01In_c _ _ _ _).mono ?_; rintro e w' ⟨rfl, rfl⟩)
               go_ret2
               rw [HV.out.1, HV.out.2]
               exact LQ.mk rfl rfl (Nat.zero_le _) (OQ.nil _ _ _ _) B1.out
             · go_wp2_with (go_at_call 98; refine (spec_l01In_c _ _ _ _).mono ?_; rintro e w' ⟨rfl, rfl⟩)
               go_round
               case rel => exact ⟨k + 1, by go_num, by omega, by rw [allB_step HX.out, HA.out, hs]; rfl⟩
               case measure => simp [intOf]; omega)
      · have hd := allB_done (p := fun x => inB x 0 1000000) (show ¬ k < D.length by rw [HN3.out]; exact hlt) HA.out
        have HD := Lib.hid (show allIn D 0 1000000 = true from hd)
        have hbD := smallL (by decide) (allIn_iff.1 HD.out)
        clear hd
        by_cases h2 : l = n
        · have hln : ((l : Int) == (n : Int)) = true := by simp [h2]
          have hln' : ((l : Int) != (n : Int)) = false := by simp [h2]
          have H2 := Lib.hid h2
          clear h2
          by_cases h3 : sumL D = sumL P
          · have HV := Lib.hid (ld_zero (S := S) (P := P) (D := D) (by
              unfold deB
              rw [if_pos H1.out, if_pos ⟨by rw [HN3.out, HN.out, H2.out], HD.out⟩, if_pos h3]))
            have H3 := Lib.hid h3
            clear h3
            go_wp2_with (go_at_call 84; first | ((with_reducible refine (spec_l01Sum_c _ _ _ D _ HN3.out (by omega) rD1.out hbD).mono ?_); rintro e w' ⟨rfl, rfl⟩; rw [H3.out]) | ((with_reducible refine (spec_l01Sum_c _ _ _ P _ HN'.out (by omega) rP1.out hbP).mono ?_); rintro e w' ⟨rfl, rfl⟩))
            refine (spec_FieldEquities_c A n c S B m d P _ HN.out hm rS1.out HN'.out hm' rP1.out hmd).mono ?_
            rintro e w2 ⟨G, l2, c2, rfl, hl, hm2, ho, b2⟩
            go_wp2_with fail
            go_ret2
            rw [HV.out.1, HV.out.2]
            exact LQ.mk rfl hl.out hm2 (ho.widen B1.out.size (Nat.le_refl _)) (below_step B1.out b2 B1.out.size)
          · have HV := Lib.hid (ld_code (S := S) (P := P) (D := D) (c := 5) (by
              unfold deB
              rw [if_pos H1.out, if_pos ⟨by rw [HN3.out, HN.out, H2.out], HD.out⟩, if_neg h3]) (by decide))
            have hne : (sumL D == sumL P) = false := by simp [h3]
            have hne' : (sumL D != sumL P) = true := by simp [h3]
            go_wp2_with (go_at_call 84; first | ((with_reducible refine (spec_l01Sum_c _ _ _ D _ HN3.out (by omega) rD1.out hbD).mono ?_); rintro e w' ⟨rfl, rfl⟩) | ((with_reducible refine (spec_l01Sum_c _ _ _ P _ HN'.out (by omega) rP1.out hbP).mono ?_); rintro e w' ⟨rfl, rfl⟩))
            go_ret2
            rw [HV.out.1, HV.out.2]
            exact LQ.mk rfl rfl (Nat.zero_le _) (OQ.nil _ _ _ _) B1.out
        · have HV := Lib.hid (ld_code (S := S) (P := P) (D := D) (c := 2) (by
            unfold deB
            rw [if_pos H1.out, if_neg (fun h => h2 (by rw [← HN3.out, ← HN.out]; exact h.1))]) (by decide))
          have hln : ((l : Int) != (n : Int)) = true := by simp; omega
          go_wp2_with fail
          go_ret2
          rw [HV.out.1, HV.out.2]
          exact LQ.mk rfl rfl (Nat.zero_le _) (OQ.nil _ _ _ _) B1.out
/-- What l30Worst hands back. -/
def WW (w : World) (V : Int) (F : Bool) (E : Int) (e : Ending) (w' : World) : Prop := e = .returned (.tuple #[.int .i64 V, .bool F, .int .i64 E]) ∧ Below w.heap.size w w'
theorem WW.mk {w w' : World} {V V' E E' : Int} {F F' : Bool} (h1 : V' = V) (h2 : F' = F) (h3 : E' = E) (hb : Below w.heap.size w w') : WW w V F E (.returned (.tuple #[.int .i64 V', .bool F', .int .i64 E'])) w' := ⟨by rw [h1, h2, h3], hb⟩
theorem ld_no {S P D : List Int} (h : ¬ ldE S P D = 0) : wdV S P D = 0 ∧ iaV S P D = false ∧ dwE S P D = ldE S P D := by
  have hd : dwE S P D = ldE S P D ∧ ¬ dwE S P D = 0 := by
    unfold dwE ldE at *
    by_cases h0 : deB S P D = 0
    · rw [if_pos h0] at h ⊢
      rw [if_pos h0]
      have hp := (de_ok h0).1
      unfold feE at h ⊢
      rw [if_pos hp] at h ⊢
      unfold dwQ
      cases hf : feK S P S.length with
      | none => rw [hf] at h; exact ⟨rfl, h⟩
      | some es => rw [hf] at h; exact absurd rfl h
    · rw [if_neg h0] at h ⊢
      rw [if_neg h0]
      exact ⟨rfl, h⟩
  exact ⟨(dw_no hd.2).2, (dw_no hd.2).1, hd.1⟩
theorem ld_yes {S P D : List Int} (h : ldE S P D = 0) : deB S P D = 0 ∧ ∃ es, feK S P S.length = some es ∧ ldL S P D = es := by
  unfold ldE at h
  by_cases h0 : deB S P D = 0
  · rw [if_pos h0] at h
    obtain ⟨es, h1, h2⟩ := feE_zero (de_ok h0).1 h
    exact ⟨h0, es, h1, by unfold ldL; rw [if_pos h0, h2]⟩
  · rw [if_neg h0] at h; exact absurd h h0
theorem dw_late {S P D : List Int} {es : List (Int × Int)} (h0 : deB S P D = 0) (hf : feK S P S.length = some es) (hd : dfK es D S.length = none) : wdV S P D = 0 ∧ iaV S P D = false ∧ dwE S P D = 3 := by
  have hq : dwQ S P D = none := by
    unfold dwQ
    rw [hf]
    show (dfK es D S.length).map _ = none
    rw [hd]; rfl
  unfold wdV iaV dwE
  rw [hq, if_pos h0]
  exact ⟨rfl, rfl, rfl⟩
theorem dw_full {S P D : List Int} {es ds : List (Int × Int)} (h0 : deB S P D = 0) (hf : feK S P S.length = some es) (hd : dfK es D S.length = some ds) : wdV S P D = (bestQ ds S.length : Nat) ∧ iaV S P D = frB es D S.length ∧ dwE S P D = 0 := by
  have hq : dwQ S P D = some (es, ds) := by
    unfold dwQ
    rw [hf]
    show (dfK es D S.length).map _ = _
    rw [hd]; rfl
  refine ⟨(dw_yes h0 hq).2, (dw_yes h0 hq).1, ?_⟩
  unfold dwE
  rw [hq, if_pos h0]
  rfl
set_option maxRecDepth 100000 in
set_option maxHeartbeats 4000000 in
theorem spec_l30Worst_c (A : Option Addr) (n c : Nat) (S : List Int) (B : Option Addr) (m d : Nat) (P : List Int) (C : Option Addr) (l f : Nat) (D : List Int) (w : World) (hn : S.length = n) (hm : n ≤ 1048576) (hr : RI w A S) (hn' : P.length = m) (hm' : m ≤ 1048576) (hr' : RI w B P) (hn3 : D.length = l) (hm3 : l ≤ 1048576) (hr3 : RI w C D) (hmd : m ≤ d) :
    Calls Try.prog 89 #[.slice A n c, .slice B m d, .slice C l f] w (WW w (wdV S P D) (iaV S P D) (dwE S P D)) := by
  have HN := Lib.hid hn
  have HN' := Lib.hid hn'
  have HN3 := Lib.hid hn3
  clear hn hn' hn3
  by_cases hE : ldE S P D = 0
  · obtain ⟨h0, es, hfe, hL⟩ := ld_yes hE
    obtain ⟨h1, hDl, hD, -⟩ := de_ok h0
    have H0 := Lib.hid h0
    have HFE := Lib.hid hfe
    have HE := Lib.hid hE
    have H1 := Lib.hid h1
    have n5 : n ≤ 5 := by rw [← HN.out]; exact (fieldB_iff.1 (prizesB_iff.1 h1).1).2.1
    have n2 : 2 ≤ n := by rw [← HN.out]; exact (fieldB_iff.1 (prizesB_iff.1 h1).1).1
    have GOOD := Lib.hid (feK_good h1 (Nat.le_refl _) hfe)
    have LE := Lib.hid (feK_len hfe)
    have HL := Lib.hid hL
    obtain rfl : l = n := by have := HN.out; have := HN3.out; omega
    clear h0 hfe h1 hDl hE hL
    go_enter Try.func89, Try.ntmps89
    go_wp2_with fail
    refine (spec_l30Deal_c A l c S B m d P C l f D _ HN.out hm hr HN'.out hm' hr' HN3.out hm3 hr3 hmd).mono ?_
    rintro e w1 ⟨G, g1, c1, rfl, hl1, hm1, ho1, b1⟩
    rw [HE.out]
    rw [HL.out] at hl1 ho1
    have B1 := Lib.hid b1
    have rE := Lib.hid ho1.ri
    obtain rfl : g1 = l := by have := hl1.out; have := LE.out; have := HN.out; omega
    clear b1 ho1
    rcases rE.out.split with hz | ⟨ge, rfl, hge, hce⟩
    · exfalso; have := hl1.out; omega
    rcases hr3.split with hz | ⟨bd, od, rfl, hbd, hcd⟩
    · exfalso; have := HN3.out; omega
    obtain ⟨s, hs⟩ : ∃ s : Nat, s = w1.heap.size := ⟨_, rfl⟩
    have HS := Lib.hid hs
    have bds : bd < s := by rw [hs]; exact Nat.lt_of_lt_of_le hbd B1.out.size
    have ges : ge < s := by rw [hs]; exact hge
    have wls : w.heap.size ≤ s := by rw [hs]; exact B1.out.size
    go_wp2_with fail
    rw [← hs]
    clear hs
    go_loopw [12, 13, 14] (fun t v u wr => ∃ (k c' : Nat) (G : Option Addr) (ds : List (Int × Int)), t = .slice G k c' ∧ v = .bool (frB es D k) ∧ u = .int .i64 k ∧ k ≤ g1 ∧ Hid (∀ x, dfK es D k = some x → ds = x) ∧ Hid (St wr s (cdQ ((dfK es D k).bind fun _ => (some (0, 1) : Option (Int × Int))))) ∧ Hid (RowQ wr (s + 1) G k c' ds) ∧ s + 1 ≤ wr.heap.size ∧ Hid (Below s w1 wr)) (fun _ _ u _ => g1 - (intOf u).toNat)
    case atStart =>
      have e1 : (w1.alloc (.cells #[.int .i64 0] 132)).heap.size = s + 1 := by rw [HS.out]; simp
      refine ⟨0, 0, _, [], rfl, rfl, rfl, Nat.zero_le _, Lib.hid (fun l h => by simp [dfK] at h; exact h.symm), Lib.hid ?_, Lib.hid ?_, by rw [← e1]; simp, Lib.hid ?_⟩
      · have := St.new w1 0
        rw [← HS.out] at this
        exact this.al
      · have := RowQ.empty (w1.alloc (.cells #[.int .i64 0] 132)) (base := s + 1) (by omega)
        rw [e1] at this
        exact this
      · have hb := (below_al w1 (.cells #[.int .i64 0] 132)).alloc (by simp) (.cells #[] 48)
        rw [← HS.out] at hb
        exact hb
    case round =>
      obtain ⟨k, c', G2, ds, rfl, rfl, rfl, hk, hdf, hst, hrow, hsz, hbw⟩ := hrel
      by_cases hlt : k < g1
      · have i1 : (k : Int) < (g1 : Int) := by omega
        have i2 : (0 : Int) ≤ (k : Int) := by omega
        obtain ⟨x, y, hxy⟩ := get_q (qs := es) (k := k) (by rw [hl1.out]; exact hlt)
        obtain ⟨z, hz⟩ := get_some (zs := D) (k := k) (by rw [HN3.out]; exact hlt)
        obtain ⟨z0, z1⟩ := hD z (List.mem_of_getElem? hz)
        have hxq := getQ_some hxy
        obtain ⟨x0, hR⟩ := GOOD.out k (by rw [HN.out]; exact hlt)
        rw [hxq] at x0 hR
        obtain ⟨-, x1, y0, y1, -⟩ := isR_iff.1 hR
        have HRN := Lib.hid (isR_neg hR)
        have HZ1 := Lib.hid (show isR z 1 = true from okQ_whole (n := z) (by omega) (by omega))
        have hzD : D.getD k 0 = z := by simp [List.getD, hz]
        have HXY := Lib.hid (show dfK es D (k + 1) = (dfK es D k).bind fun l => (ratQ (z * y - x) y).map fun q => l ++ [q] by
          show ((dfK es D k).bind fun l => (ratQ (D.getD k 0 * (getQ es k).2 - (getQ es k).1) (getQ es k).2).map fun q => l ++ [q]) = _
          rw [hxq, hzD])
        have HF := Lib.hid (show frB es D (k + 1) = (frB es D k && decide (x / y ≤ z)) by
          show (frB es D k && decide ((getQ es k).1 / (getQ es k).2 ≤ D.getD k 0)) = _
          rw [hxq, hzD])
        have hq0 : 0 ≤ x / y := Int.ediv_nonneg x0 (by omega)
        have hq1 : x / y ≤ 1000000000 := Int.le_trans (Int.ediv_le_self _ x0) x1
        obtain ⟨p0, p1⟩ := hce.out k x y hxy
        have p2 := (B1.out.cell (p := ⟨bd, od + k, none⟩) hbd).trans (hcd.out k z hz)
        have mk : ∀ w' : World, Below s w1 w' → w'.cell? ⟨bd, od + k, none⟩ = some (.int .i64 z) ∧ w'.cell? ⟨ge, k * 2, none⟩ = some (.int .i64 x) ∧ w'.cell? ⟨ge, k * 2 + 1, none⟩ = some (.int .i64 y) ∧ Below s w1 w' := fun w' hB =>
          ⟨(hB.cell (p := ⟨bd, od + k, none⟩) bds).trans p2, (hB.cell (p := ⟨ge, k * 2, none⟩) ges).trans p0, (hB.cell (p := ⟨ge, k * 2 + 1, none⟩) ges).trans p1, hB⟩
        have MK := Lib.hid mk
        have n1 : IntKind.i64.wrap (-x) = -x := IntWalk.i64_in _ (by omega)
        clear hxy hz hxq hR hzD p0 p1 p2 mk
        go_upto_region 10 with (fail)
        go_cut [12] (fun s12 wc => ∃ (g5 c5 : Nat) (n4 d4 : Int), s12 = .slice (some ⟨g5, 0, none⟩) (k + 1) c5 ∧ Hid (RowQ wc (s + 1) (some ⟨g5, 0, none⟩) (k + 1) c5 (ds ++ [(n4, d4)])) ∧ Hid (SQ wc s ((((dfK es D k).bind fun _ => (some (0, 1) : Option (Int × Int))).bind fun _ => ratQ (z * y - x) y)) n4 d4) ∧ s + 1 ≤ wc.heap.size ∧ Hid (Below s w1 wc))
        case first =>
          have HB0 := hbw
          obtain ⟨e0, e1, e2, -⟩ := MK.out wr hbw.out
          go_wp2_with fail
          go_region_held3 (fun w' => w'.cell? ⟨bd, od + k, none⟩ = some (.int .i64 z) ∧ w'.cell? ⟨ge, k * 2, none⟩ = some (.int .i64 x) ∧ w'.cell? ⟨ge, k * 2 + 1, none⟩ = some (.int .i64 y) ∧ Below s w1 w')
            ((first
              | exact MK.out _ HB0.out.drew
              | exact MK.out _ F5
              | exact MK.out _ (F4.alloc (by first | omega | exact Nat.le_trans (by omega) F4z) _)
              | exact MK.out _ F4
              | exact MK.out _ F3))
            ((first
              | (go_at_call 149; refine (spec_l19Whole_c _ _).mono ?_; rintro e w3 ⟨rfl, b3⟩; have F3 : Below s w1 w3 := below_step (w := wr.drew) HB0.out.drew b3 (show s ≤ wr.heap.size by omega); have ST3 : St w3 s _ := St.below (w := wr.drew) hst.out b3; have row3 := RowQ.below (w := wr.drew) hrow.out b3; have z3 : wr.heap.size ≤ w3.heap.size := b3.size)
              | (go_at_call 148; refine (spec_l19Add_c s _ z 1 (-x) y _ ST3 (fun v hv => ⟨HZ1.out, HRN.out⟩)).mono ?_; rintro e w4 ⟨n4, d4, rfl, sq4, k4⟩; have F4 : Below s w1 w4 := F3.trans (k4.below (Nat.le_refl _) (by omega)); have row4 := RowQ.keptS row3 k4 (by omega); have z4 : wr.heap.size ≤ w4.heap.size := Nat.le_trans z3 k4.size; have F4z : s ≤ w4.heap.size := by omega)
              | (refine step_appendQ (by rfl) _ _ (by rfl) (s + 1) G2 k c' ds (by rfl) (row4.alloc _) w4.heap.size 1 n4 d4 (by rfl) (by simp) (by simp) (by omega) (by simp; omega) ?_; intro g5 c5 w5 hr5 hb5; have F5 : Below s w1 w5 := (F4.alloc F4z _).trans (hb5.mono (by omega)))))
          all_goals
            go_wp2_with fail
            go_meet
            rw [show z * y + -x * 1 = z * y - x by omega, show 1 * y = y by omega] at sq4
            exact ⟨g5, c5, n4, d4, rfl, Lib.hid hr5, Lib.hid ⟨St.belowB sq4.st.al hb5 (by omega), sq4.v⟩, Nat.le_trans (by simp; omega) hb5.size, Lib.hid F5⟩
        case rest =>
          obtain ⟨g5, c5, n4, d4, rfl, hrow5, hsq5, hsz5, hbw5⟩ := hcut
          obtain ⟨w6, rfl⟩ : ∃ w6 : World, w6 = wc := ⟨_, rfl⟩
          have HD6 : Hid (∀ v, dfK es D (k + 1) = some v → ds ++ [(n4, d4)] = v) := Lib.hid (fun v h => by
            rw [HXY.out] at h
            cases h1 : dfK es D k with
            | none => rw [h1] at h; simp at h
            | some l1 =>
              rw [h1] at h
              cases h2 : ratQ (z * y - x) y with
              | none => rw [h2] at h; simp at h
              | some q =>
                rw [h2] at h
                simp at h
                subst h
                have e1 := hdf.out l1 h1
                have e2 := (hsq5.out.v q (by rw [h1, h2]; rfl)).1
                rw [e1, e2])
          have HT6 : Hid (St w6 s (cdQ ((dfK es D (k + 1)).bind fun _ => (some (0, 1) : Option (Int × Int))))) := Lib.hid (by
            have e : cdQ ((dfK es D (k + 1)).bind fun _ => (some (0, 1) : Option (Int × Int))) = cdQ (((dfK es D k).bind fun _ => (some (0, 1) : Option (Int × Int))).bind fun _ => ratQ (z * y - x) y) := by
              rw [HXY.out]
              cases dfK es D k <;> cases ratQ (z * y - x) y <;> rfl
            rw [e]
            exact hsq5.out.st)
          obtain ⟨e0, e1, e2, -⟩ := MK.out w6 hbw5.out
          have t1 : x.tdiv y = x / y := Int.tdiv_eq_ediv_of_nonneg x0
          have t2 : IntKind.i64.wrap (x / y) = x / y := IntWalk.i64_in _ (by omega)
          have t3 : ¬ y = 0 := by omega
          clear n1 MK hsq5 hst hrow hdf hbw
          cases hfr : frB es D k
          · have HF2 := Lib.hid (show frB es D (k + 1) = false by rw [HF.out, hfr]; rfl)
            clear hfr
            go_wp2_with fail
            go_quiet (fail)
            clear t1 t2
            go_wp2_with fail
            go_roundw
            case rel => exact ⟨k + 1, c5, _, _, rfl, by rw [HF2.out], by go_num, by omega, HD6, HT6, hrow5, hsz5, Lib.hid (below_drewN hbw5.out _)⟩
            case measure => simp [intOf]; omega
          · by_cases hzq : x / y ≤ z
            · have HF2 := Lib.hid (show frB es D (k + 1) = true by rw [HF.out, hfr]; simp [hzq])
              clear hfr
              go_wp2_with fail
              go_quiet (fail)
              clear t1 t2
              go_wp2_with fail
              go_roundw
              case rel => exact ⟨k + 1, c5, _, _, rfl, by rw [HF2.out], by go_num, by omega, HD6, HT6, hrow5, hsz5, Lib.hid (below_drewN hbw5.out _)⟩
              case measure => simp [intOf]; omega
            · have HF2 := Lib.hid (show frB es D (k + 1) = false by rw [HF.out, hfr]; simp [hzq])
              clear hfr
              go_wp2_with fail
              go_quiet (fail)
              clear t1 t2
              go_wp2_with fail
              go_roundw
              case rel => exact ⟨k + 1, c5, _, _, rfl, by rw [HF2.out]; simp; omega, by go_num, by omega, HD6, HT6, hrow5, hsz5, Lib.hid (below_drewN hbw5.out _)⟩
              case measure => simp [intOf]; omega
      · obtain rfl : k = g1 := by omega
        have hke := HN.out
        rcases hfk : dfK es D k with _ | dd
        · have HV := Lib.hid (dw_late H0.out HFE.out (by rw [hke]; exact hfk))
          have hst3 : Hid (St wr s 3) := Lib.hid (by have := hst.out; rw [hfk] at this; exact this)
          obtain ⟨st0, st1⟩ := hst3.out.cell
          clear hke hfk hst
          go_wp2_with fail
          go_quiet (fail)
          go_wp2_with fail
          go_ret3
          exact WW.mk HV.out.1.symm HV.out.2.1.symm HV.out.2.2.symm (below_drewN (B1.out.trans (hbw.out.mono wls)) _)
        · obtain rfl := hdf.out dd hfk
          have HV := Lib.hid (dw_full H0.out HFE.out (by rw [hke]; exact hfk))
          have HKE := Lib.hid hke
          have hst3 : Hid (St wr s 0) := Lib.hid (by have := hst.out; rw [hfk] at this; exact this)
          have DG := Lib.hid (ds_good H1.out HFE.out (by rw [hke]; exact hfk))
          have LD := Lib.hid hrow.out.length
          obtain ⟨st0, st1⟩ := hst3.out.cell
          have BW := Lib.hid (B1.out.trans (hbw.out.mono wls))
          rcases hrow.out.oq.ri.split with hz | ⟨gd, rfl, hgd, hcd2⟩
          · exfalso; have := LD.out; omega
          clear hke hfk hst hdf
          go_wp2_with fail
          go_loopw [15, 16] (fun t u wq => ∃ j : Nat, t = .int .i64 (bestQ ds j : Nat) ∧ u = .int .i64 j ∧ 1 ≤ j ∧ j ≤ k ∧ Hid (Below wr.heap.size wr wq)) (fun _ u _ => k - (intOf u).toNat)
          case atStart => exact ⟨1, by rw [bestQ_one]; rfl, rfl, Nat.le_refl _, by omega, Lib.hid (Below.refl _ _)⟩
          case round =>
            obtain ⟨j, rfl, rfl, hj1, hj, hbq⟩ := hrel
            by_cases hlj : j < k
            · obtain ⟨v, hv⟩ : ∃ v, bestQ ds j = v := ⟨_, rfl⟩
              have HB := Lib.hid hv
              have hvl : v < k := by rw [← hv]; exact bestQ_lt ds hj (by omega)
              rw [hv]
              clear hv
              have i1 : (j : Int) < (k : Int) := by omega
              have i2 : (0 : Int) ≤ (j : Int) := by omega
              have i3 : (v : Int) < (k : Int) := by omega
              have i4 : (0 : Int) ≤ (v : Int) := by omega
              obtain ⟨x, y, hxy⟩ := get_q (qs := ds) (k := j) (by rw [LD.out]; exact hlj)
              obtain ⟨x', y', hxy'⟩ := get_q (qs := ds) (k := v) (by rw [LD.out]; exact hvl)
              have G1 := DG.out j (by rw [HKE.out]; exact hlj)
              have G2' := DG.out v (by rw [HKE.out]; exact hvl)
              have HXQ := Lib.hid (getQ_some hxy)
              have HXQ' := Lib.hid (getQ_some hxy')
              rw [HXQ.out] at G1
              rw [HXQ'.out] at G2'
              have S1 := Lib.hid (Sm.of G1)
              have S2 := Lib.hid (Sm.of G2')
              have HBS := Lib.hid (show bestQ ds (j + 1) = if cmpI (x * y') (x' * y) < 0 then j else v by
                show (if cmpI ((getQ ds j).1 * (getQ ds (bestQ ds j)).2) ((getQ ds (bestQ ds j)).1 * (getQ ds j).2) < 0 then j else bestQ ds j) = _
                rw [HB.out, HXQ.out, HXQ'.out])
              obtain ⟨p0, p1⟩ := hcd2.out j x y hxy
              obtain ⟨p2, p3⟩ := hcd2.out v x' y' hxy'
              have c0 := (hbq.out.cell (p := ⟨gd, j * 2, none⟩) hgd).trans p0
              have c3 := (hbq.out.cell (p := ⟨gd, j * 2 + 1, none⟩) hgd).trans p1
              have c4 := (hbq.out.cell (p := ⟨gd, v * 2, none⟩) hgd).trans p2
              have c5 := (hbq.out.cell (p := ⟨gd, v * 2 + 1, none⟩) hgd).trans p3
              clear hxy hxy' p0 p1 p2 p3 G1 G2' st0 st1
              go_wp2_with fail
              go_still_tail 8, (by kernel_rfl)
              change wpList _ _ _ _ _ (World.drew _)
              go_wp2_with fail
              refine (spec_l01Compare_c _ _ _ _ _ S1.out S2.out).mono ?_
              rintro e w3 ⟨rfl, b3⟩
              have B3 := Lib.hid (below_step hbq.out.drew b3 hbq.out.drew.size)
              clear b3 c0 c3 c4 c5
              obtain ⟨cv, hcv⟩ : ∃ cv, cmpI (x * y') (x' * y) = cv := ⟨_, rfl⟩
              rw [hcv] at HBS
              rw [hcv]
              clear hcv
              by_cases hc : cv < 0
              · have HS2 := Lib.hid (show bestQ ds (j + 1) = j by rw [HBS.out, if_pos hc])
                go_wp2_with fail
                go_roundw
                case rel => exact ⟨j + 1, by rw [HS2.out], by go_num, by omega, by omega, B3⟩
                case measure => simp [intOf]; omega
              · have HS2 := Lib.hid (show bestQ ds (j + 1) = v by rw [HBS.out, if_neg hc])
                go_wp2_with fail
                go_roundw
                case rel => exact ⟨j + 1, by rw [HS2.out], by go_num, by omega, by omega, B3⟩
                case measure => simp [intOf]; omega
            · have HIN := Lib.hid (show wdV S P D = (bestQ ds j : Nat) ∧ iaV S P D = frB es D k ∧ dwE S P D = 0 by
                rw [← HKE.out, show j = S.length by rw [HKE.out]; omega]
                exact HV.out)
              go_wp2_with fail
              go_ret3
              exact WW.mk HIN.out.1.symm HIN.out.2.1.symm HIN.out.2.2.symm (below_step BW.out hbq.out BW.out.size)
  · have HV := Lib.hid (ld_no hE)
    obtain ⟨E, hE2⟩ : ∃ E, ldE S P D = E := ⟨_, rfl⟩
    rw [hE2] at hE HV
    have HE := Lib.hid hE2
    have hB : (E == 0) = false := by simp [hE]
    clear hE2
    go_enter Try.func89, Try.ntmps89
    go_wp2_with fail
    refine (spec_l30Deal_c A n c S B m d P C l f D _ HN.out hm hr HN'.out hm' hr' HN3.out hm3 hr3 hmd).mono ?_
    rintro e w1 ⟨G, g1, c1, rfl, hl1, hm1, ho1, b1⟩
    rw [HE.out]
    clear ho1 hl1
    go_wp2_with fail
    go_ret3
    exact WW.mk HV.out.1.symm HV.out.2.1.symm HV.out.2.2.symm b1
theorem spec_IsAcceptable_c (A : Option Addr) (n c : Nat) (S : List Int) (B : Option Addr) (m d : Nat) (P : List Int) (C : Option Addr) (l f : Nat) (D : List Int) (w : World) (hn : S.length = n) (hm : n ≤ 1048576) (hr : RI w A S) (hn' : P.length = m) (hm' : m ≤ 1048576) (hr' : RI w B P) (hn3 : D.length = l) (hm3 : l ≤ 1048576) (hr3 : RI w C D) (hmd : m ≤ d) :
    Calls Try.prog 41 #[.slice A n c, .slice B m d, .slice C l f] w fun e w' => e = .returned (.tuple #[.bool (iaV S P D), .int .i64 (dwE S P D)]) ∧ Below w.heap.size w w' := by
  go_enter Try.func41, Try.ntmps41
  go_wp2_with fail
  refine (spec_l30Worst_c A n c S B m d P C l f D _ hn hm hr hn' hm' hr' hn3 hm3 hr3 hmd).mono ?_
  rintro e w1 ⟨rfl, b1⟩
  clear hn hn' hn3
  go_wp2_with fail
  go_ret2
  exact ⟨rfl, b1⟩
theorem spec_WorstDeal_c (A : Option Addr) (n c : Nat) (S : List Int) (B : Option Addr) (m d : Nat) (P : List Int) (C : Option Addr) (l f : Nat) (D : List Int) (w : World) (hn : S.length = n) (hm : n ≤ 1048576) (hr : RI w A S) (hn' : P.length = m) (hm' : m ≤ 1048576) (hr' : RI w B P) (hn3 : D.length = l) (hm3 : l ≤ 1048576) (hr3 : RI w C D) (hmd : m ≤ d) :
    Calls Try.prog 19 #[.slice A n c, .slice B m d, .slice C l f] w fun e w' => e = .returned (.tuple #[.int .i64 (wdV S P D), .int .i64 (dwE S P D)]) ∧ Below w.heap.size w w' := by
  go_enter Try.func19, Try.ntmps19
  go_wp2_with fail
  refine (spec_l30Worst_c A n c S B m d P C l f D _ hn hm hr hn' hm' hr' hn3 hm3 hr3 hmd).mono ?_
  rintro e w1 ⟨rfl, b1⟩
  clear hn hn' hn3
  go_wp2_with fail
  go_ret2
  exact ⟨rfl, b1⟩
end Go.Proofs.Ythpgkngkmmameaa
