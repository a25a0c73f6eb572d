/-
  What the reference draws for decks and both passes. Conditions: a code of at most 1048576 bytes.
-/
import Derived.Test.YthpgkngkmmameaaDrawMask
import Derived.Test.YthpgkngkmmameaaCryptEnd
import Derived.Test.YthpgkngkmmameaaDeck
namespace Go.Proofs.Ythpgkngkmmameaa
open Go.RowKit
set_option linter.unusedVariables false
/-- A list that is drawn. -/
def DD (w : World) (lo g : Nat) (e : Ending) (w' : World) : Prop :=
  ∃ (A : Option Addr) (n c : Nat) (zs : List Int), e = .returned (.slice A n c) ∧ Hid (zs.length = n) ∧ n ≤ 53 ∧ OI w' w.heap.size w'.heap.size A zs ∧ Src w' lo g ∧ Kept g (g + 1) w w'
theorem OI.tail {w : World} {lo hi b : Nat} {zs : List Int} (h : OI w lo hi (some ⟨b, 0, none⟩) zs) : OI w lo hi (some ⟨b, 1, none⟩) (zs.drop 1) := by
  rcases h with h | ⟨b', off, e, l1, l2, h2, h3, h4⟩
  · exact .inl (by rw [h]; rfl)
  · injection e with e; injection e with e1 e2; subst e1 e2
    refine .inr ⟨b, 1, rfl, l1, l2, h2, fun j x hx => ?_, h4⟩
    rw [List.getElem?_drop] at hx
    have := h3 (1 + j) x hx
    rwa [Nat.zero_add] at this
set_option maxHeartbeats 2000000 in
theorem spec_l03Draw_c (w : World) (lo g : Nat) (hs : Src w lo g) : Calls Try.prog 121 #[.pointer (some ⟨g, 0, none⟩)] w (DD w lo g) := by
  have hg := hs.lt
  go_enter Try.func121, Try.ntmps121
  go_wp2_with fail
  refine (spec_l01Next_c _ lo g _ hs (by omega)).mono ?_
  rintro e w1 ⟨r1, rfl, p1, q1, hs1, hk1⟩
  have hq1 : r1 ≤ 2147483645 := by omega
  have z1 := hk1.size
  go_wp2_with fail
  refine (spec_l03Shuffled_c _ _ (by omega) (by omega)).mono ?_
  rintro e w2 ⟨b, c, zs, rfl, hd, hr2, hb2⟩
  have z2 := hb2.size
  have hbb := World.ownsRow.lt hr2 b rfl
  have hs2 := hs1.below hb2
  have hl := (deck_iff.1 hd.out).1
  have hk2 := hk1.trans (Kept.of_below hb2 g (g + 1))
  go_wp2_with fail
  refine (spec_l01Next_c _ lo g _ hs2 (by omega)).mono ?_
  rintro e w3 ⟨r3, rfl, p3, q3, hs3, hk3⟩
  have hr3 := hr2.keptS hk3 (by omega)
  have z3 := hk3.size
  have HR := Lib.hid hr3
  have HK := Lib.hid (hk2.trans hk3)
  have HS := Lib.hid hs3
  have HL := Lib.hid hl
  have hbw : w.heap.size ≤ b := by omega
  have hbg : ¬ b = g := by omega
  have hcap : 52 ≤ c := by
    rcases hr3.2 with ⟨hv, h0⟩ | ⟨g', cap, cur, hv, _, _, hn, _⟩
    · omega
    · injection hv with _ _ e; omega
  obtain ⟨x, hx⟩ := get_some (zs := zs) (k := 1) (by omega)
  obtain ⟨y, hy⟩ := get_some (zs := zs) (k := 0) (by omega)
  obtain ⟨cx, fx⟩ := hr3.oi.cellX hx
  obtain ⟨cy, fy⟩ := hr3.oi.cellX hy
  simp only [Nat.zero_add] at cx fx cy fy
  have HR1 := Lib.hid (Row.set hr3 (j := 0) (by omega) x)
  clear hr3 hr2 hk3 hk2 hk1 hs1 hs2 hs3 hb2 hs hx hy hd hl
  by_cases c0 : r3 = 0
  · have d0 : (r3 == 0) = true := by simp [c0]
    clear c0
    go_wp2_with fail
    go_ret
    exact ⟨_, _, _, zs.set 0 x, rfl, Lib.hid (by rw [List.length_set]; exact HL.out), by omega, HR1.out.oi.widen (by omega) (Nat.le_refl _), HS.out.belowB ((Below.refl w.heap.size _).setCell (p := ⟨b, 0, none⟩) hbw _) hg.2, HK.out.setCell (.inr hbw) _⟩
  · have d0 : (r3 == 0) = false := by simp [c0]
    by_cases c1 : r3 = 1
    · have d1 : (r3 == 1) = true := by simp [c1]
      clear c0 c1
      go_wp2_with fail
      go_ret
      exact ⟨_, _, _, _, rfl, Lib.hid (by rw [List.length_drop, HL.out]), by omega, HR.out.oi.tail.widen (by omega) (Nat.le_refl _), HS.out, HK.out⟩
    · have d1 : (r3 == 1) = false := by simp [c1]
      by_cases c2 : r3 = 2
      · have d2 : (r3 == 2) = true := by simp [c2]
        clear c0 c1 c2
        go_wp2_with (at_builtin; refine wpList_append1 rfl _ _ rfl w1.heap.size (some ⟨b, 0, none⟩) 52 c _ rfl (Row.alloc HR.out _) w3.heap.size 1 0 rfl (by simp) (by omega) (by simp; omega) ?_; intro g4 c4 w4 hr4 hb4 hg4)
        have HR4 := Lib.hid hr4
        have HB4 := Lib.hid hb4
        have z4 := hb4.size
        clear hr4 hb4 hg4
        go_ret
        have z5 : w3.heap.size ≤ (w3.alloc (.cells #[.int .i64 0] 2)).heap.size := by simp
        exact ⟨_, _, _, _, rfl, Lib.hid (by rw [List.length_append, HL.out]; rfl), by omega, HR4.out.oi.widen (by omega) (Nat.le_refl _), (HS.out.alloc _).belowB HB4.out (by omega), (HK.out.alloc _).belowBase (HB4.out.mono (by omega))⟩
      · have d2 : (r3 == 2) = false := by simp [c2]
        clear c0 c1 c2
        go_wp2_with fail
        go_ret
        exact ⟨_, _, _, _, rfl, HL, by omega, HR.out.oi.widen (by omega) (Nat.le_refl _), HS.out, HK.out⟩
/-- From the code: the source, then what is drawn. -/
theorem spec_DrawFirstPass_c (A : Option Addr) (n c : Nat) (bs : List Int) (w : World) (hn : bs.length = n) (hm : n ≤ 1048576) (hr : BR w A bs) :
    Calls Try.prog 70 #[.slice A n c] w fun e w' => ∃ (k : Int) (B : Option Addr) (m d : Nat) (zs : List Int), e = .returned (.tuple #[.int .i64 k, .slice B m d]) ∧ -1 ≤ k ∧ k ≤ 1019 ∧ Hid (zs.length = m) ∧ m ≤ 53 ∧ RI w' B zs ∧ Below w.heap.size w w' := by
  go_enter Try.func70, Try.ntmps70
  go_wp2_with fail
  refine (spec_l01From_c A n c bs _ hn hm hr).mono ?_
  rintro e w0 ⟨g, rfl, hs0, hb0⟩
  go_wp2_with fail
  refine (spec_l32DrawKey_c _ _ g hs0).mono ?_
  rintro e w1 ⟨k, rfl, k0, k1, hs1, hk1⟩
  go_wp2_with fail
  refine (spec_l03Draw_c _ _ g hs1).mono ?_
  rintro e w2 ⟨B, m, d, zs, rfl, hl, hm, ho, hs2, hk2⟩
  go_wp2_with fail
  go_ret2
  exact ⟨k, B, m, d, zs, rfl, k0, k1, hl, hm, ho.ri, src_below hs0 hb0 (hk1.trans hk2)⟩
set_option maxHeartbeats 2000000 in
theorem spec_DrawSecondPass_c (A : Option Addr) (n c : Nat) (bs : List Int) (w : World) (hn : bs.length = n) (hm : n ≤ 1048576) (hr : BR w A bs) :
    Calls Try.prog 73 #[.slice A n c] w fun e w' => ∃ (C : Option Addr) (l f : Nat) (ys : List Int) (k : Int) (B : Option Addr) (m d : Nat) (zs : List Int), e = .returned (.tuple #[.slice C l f, .int .i64 k, .slice B m d]) ∧ Hid (ys.length = l) ∧ l ≤ 1048576 ∧ RI w' C ys ∧ -1 ≤ k ∧ k ≤ 1019 ∧ Hid (zs.length = m) ∧ m ≤ 53 ∧ RI w' B zs ∧ Below w.heap.size w w' := by
  go_enter Try.func73, Try.ntmps73
  go_wp2_with fail
  refine (spec_l01From_c A n c bs _ hn hm hr).mono ?_
  rintro e w0 ⟨g, rfl, hs0, hb0⟩
  go_wp2_with fail
  refine (spec_l01Next_c _ _ g _ hs0 (by omega)).mono ?_
  rintro e w1 ⟨r1, rfl, p1, q1, hs1, hk1⟩
  have e1 : 0 ≤ 52 - r1.tdiv 19 ∧ 52 - r1.tdiv 19 ≤ 53 := by rw [Int.tdiv_eq_ediv_of_nonneg p1]; omega
  go_wp2_with fail
  refine (spec_l32DrawSquares_c _ _ g _ hs1 (by first | exact e1.1 | omega) (by first | exact e1.2 | omega)).mono ?_
  rintro e w2 ⟨C, l, f, ys, rfl, hl, hlm, ho, hs2, hk2⟩
  have HO := Lib.hid ho
  have g0 := hs0.lt
  have g1 := hs1.lt
  have g2 := hs2.lt
  have z1 := hk1.size
  clear ho
  go_wp2_with fail
  refine (spec_l01Next_c _ _ g _ hs2 (by omega)).mono ?_
  rintro e w3 ⟨r3, rfl, p3, q3, hs3, hk3⟩
  have HO3 := Lib.hid (HO.out.kept hk3 (.inl (by omega)))
  have z2 := hk2.size
  have z3 := hk3.size
  clear HO
  by_cases c0 : r3 = 0
  · have d0 : (r3 == 0) = true := by simp [c0]
    clear c0
    go_wp2_with fail
    refine (spec_l01Next_c _ _ g _ hs3 (by omega)).mono ?_
    rintro e w4 ⟨r4, rfl, p4, q4, hs4, hk4⟩
    have y4 : r4 ≤ 999 := by omega
    have z4 := hk4.size
    go_wp2_with fail
    refine (spec_l01Next_c _ _ g _ hs4 (by omega)).mono ?_
    rintro e w5 ⟨r5, rfl, p5, q5, hs5, hk5⟩
    have y5 : r5 ≤ 999 := by omega
    have z5 := hk5.size
    go_wp2_with fail
    refine (spec_l03Shuffled_c _ _ (by omega) (by omega)).mono ?_
    rintro e w6 ⟨b6, c6, ds, rfl, hd, hr6, hb6⟩
    have HD := Lib.hid (deck_in hd.out)
    have z6 := hb6.size
    go_wp2_with fail
    refine (spec_l32First_c _ 52 _ ds _ _ (deck_iff.1 hd.out).1 (by omega) hr6.oi.ri HD (by omega) (by omega)).mono ?_
    rintro e w7 ⟨b7, c7, rfl, ho7, hb7⟩
    have z7 := hb7.size
    have hs7 := (hs5.below hb6).below hb7
    have hk7 := (((hk1.trans hk2).trans hk3).trans hk4).trans ((hk5.trans (Kept.of_below hb6 g (g + 1))).trans (Kept.of_below hb7 g (g + 1)))
    have HO7 := Lib.hid ho7
    have HL7 := Lib.hid (show (firstL (1 + r4) ds).length = 52 by simp [firstL, (deck_iff.1 hd.out).1])
    clear ho7 hr6
    go_wp2_with fail
    refine (spec_l32DrawKey_c _ _ g hs7).mono ?_
    rintro e w8 ⟨k, rfl, k0, k1, hs8, hk8⟩
    have HO8 := Lib.hid (HO7.out.kept hk8 (.inl (by omega)))
    go_wp2_with fail
    refine (spec_l03Draw_c _ _ g hs8).mono ?_
    rintro e w9 ⟨B, m, d, zs, rfl, hl9, hm9, ho9, hs9, hk9⟩
    have HO9 := Lib.hid (HO8.out.kept hk9 (.inl (by omega)))
    go_wp2_with fail
    go_ret3
    exact ⟨_, _, _, _, k, B, m, d, zs, rfl, HL7, by omega, HO9.out.ri, k0, k1, hl9, hm9, ho9.ri, src_below hs0 hb0 (hk7.trans (hk8.trans hk9))⟩
  · have d0 : (r3 == 0) = false := by simp [c0]
    clear c0
    go_wp2_with fail
    refine (spec_l32DrawKey_c _ _ g hs3).mono ?_
    rintro e w8 ⟨k, rfl, k0, k1, hs8, hk8⟩
    have HO8 := Lib.hid (HO3.out.kept hk8 (.inl (by omega)))
    go_wp2_with fail
    refine (spec_l03Draw_c _ _ g hs8).mono ?_
    rintro e w9 ⟨B, m, d, zs, rfl, hl9, hm9, ho9, hs9, hk9⟩
    have HO9 := Lib.hid (HO8.out.kept hk9 (.inl (by omega)))
    go_wp2_with fail
    go_ret3
    exact ⟨_, _, _, _, k, B, m, d, zs, rfl, hl, hlm, HO9.out.ri, k0, k1, hl9, hm9, ho9.ri, src_below hs0 hb0 (((hk1.trans hk2).trans hk3).trans (hk8.trans hk9))⟩
end Go.Proofs.Ythpgkngkmmameaa
