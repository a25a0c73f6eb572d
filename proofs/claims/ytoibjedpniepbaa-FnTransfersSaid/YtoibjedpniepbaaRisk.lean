/-
  The contracts of RiskPremium. Conditions: at most 1048576 elements; the number of chips is an int64.
-/
import Derived.Test.YtoibjedpniepbaaIcmChip
namespace Go.Proofs.Ytoibjedpniepbaa
open Go.RowKit
set_option linter.unusedVariables false
def halfQ : Option (Int × Int) := some (1, 2)
theorem half_ok : isR 1 2 = true := by decide
/-- The code of a field, prizes and two transfers. -/
def rpC (S P : List Int) (p o n : Int) : Int := if prizesB S P = true then (if trC S o p n = 0 then trC S p o n else trC S o p n) else 1
def rpQ (S P : List Int) (p o n : Int) : Option (Int × Int) := subO (subO (icm P S p.toNat) (mulO (icm P (trL S o p n) p.toNat) halfQ)) (mulO (icm P (trL S p o n) p.toNat) halfQ)
def rpN (S P : List Int) (p o n : Int) : Int := if rpC S P p o n = 0 then icN (rpQ S P p o n) else 0
def rpD (S P : List Int) (p o n : Int) : Int := if rpC S P p o n = 0 then icD (rpQ S P p o n) else 0
def rpE (S P : List Int) (p o n : Int) : Int := if rpC S P p o n = 0 then icE (rpQ S P p o n) else rpC S P p o n
theorem rp_no {S P : List Int} {p o n c : Int} (h : rpC S P p o n = c) (hc : c ≠ 0) : rpN S P p o n = 0 ∧ rpD S P p o n = 0 ∧ rpE S P p o n = c := by
  unfold rpN rpD rpE
  rw [h, if_neg hc, if_neg hc, if_neg hc]
  exact ⟨rfl, rfl, rfl⟩
theorem rp_yes {S P : List Int} {p o n : Int} (h : rpC S P p o n = 0) : prizesB S P = true ∧ trC S o p n = 0 ∧ trC S p o n = 0 := by
  unfold rpC at h
  by_cases h1 : prizesB S P = true
  · rw [if_pos h1] at h
    by_cases h2 : trC S o p n = 0
    · rw [if_pos h2] at h; exact ⟨h1, h2, h⟩
    · rw [if_neg h2] at h; exact absurd h h2
  · rw [if_neg h1] at h; exact absurd h (by decide)
theorem tr_field {S : List Int} {f t k : Int} (hF : fieldB S = true) (h : trC S f t k = 0) : fieldB (trL S f t k) = true := by
  obtain ⟨i, j, x, y, -, -, hi, hj, hij, hx, hy, k0, k1, k2, x0, x1, y0, y1, e⟩ := tr_ok hF h
  obtain ⟨f1, f2, f3⟩ := fieldB_iff.1 hF
  rw [fieldB_iff, e]
  refine ⟨by simpa using f1, by simpa using f2, fun z hz => ?_⟩
  rcases List.mem_or_eq_of_mem_set hz with hz | rfl
  · rcases List.mem_or_eq_of_mem_set hz with hz | rfl
    · exact f3 z hz
    · omega
  · omega
theorem tr_prizes {S P : List Int} {f t k : Int} (h1 : prizesB S P = true) (h : trC S f t k = 0) : prizesB (trL S f t k) P = true := by
  obtain ⟨p1, p2, p3, p4, p5⟩ := prizesB_iff.1 h1
  exact prizesB_iff.2 ⟨tr_field p1 h, p2, by rw [tr_len]; exact p3, p4, p5⟩
theorem prizes_ic {S P : List Int} {i : Nat} (h1 : prizesB S P = true) (hi : i < S.length) : IcOk S P i := by
  obtain ⟨p1, p2, p3, p4, -⟩ := prizesB_iff.1 h1
  obtain ⟨f1, f2, f3⟩ := fieldB_iff.1 p1
  exact ⟨f3, f2, p4, p2, p3, hi⟩
/-- The reference's steps come to the same. -/
theorem rp_join {Q0 E1 E2 : Option (Int × Int)} {a0 b0 a1 b1 c1 e1 a2 b2 c2 e2 a3 b3 m1 m2 : Int}
    (h0 : ∀ x, Q0 = some x → x = (a0, b0) ∧ isR a0 b0 = true) (h1 : ∀ x, (Q0.bind fun _ => E1) = some x → x = (a1, b1) ∧ isR a1 b1 = true)
    (h2 : ∀ x, ((Q0.bind fun _ => E1).bind fun _ => ratQ (1 * a1) (2 * b1)) = some x → x = (c1, e1) ∧ isR c1 e1 = true)
    (h3 : ∀ x, (((Q0.bind fun _ => E1).bind fun _ => ratQ (1 * a1) (2 * b1)).bind fun _ => E2) = some x → x = (a2, b2) ∧ isR a2 b2 = true)
    (h4 : ∀ x, ((((Q0.bind fun _ => E1).bind fun _ => ratQ (1 * a1) (2 * b1)).bind fun _ => E2).bind fun _ => ratQ (1 * a2) (2 * b2)) = some x → x = (c2, e2) ∧ isR c2 e2 = true)
    (hm1 : isR c1 e1 = true → m1 = -c1) (hm2 : isR c2 e2 = true → m2 = -c2)
    (h5 : ∀ x, (((((Q0.bind fun _ => E1).bind fun _ => ratQ (1 * a1) (2 * b1)).bind fun _ => E2).bind fun _ => ratQ (1 * a2) (2 * b2)).bind fun _ => ratQ (a0 * e1 + m1 * b0) (b0 * e1)) = some x → x = (a3, b3) ∧ isR a3 b3 = true) :
    ((((((Q0.bind fun _ => E1).bind fun _ => ratQ (1 * a1) (2 * b1)).bind fun _ => E2).bind fun _ => ratQ (1 * a2) (2 * b2)).bind fun _ => ratQ (a0 * e1 + m1 * b0) (b0 * e1)).bind fun _ => ratQ (a3 * e2 + m2 * b3) (b3 * e2)) = subO (subO Q0 (mulO E1 halfQ)) (mulO E2 halfQ) := by
  cases Q0 with
  | none => rfl
  | some q =>
    obtain ⟨rfl, -⟩ := h0 _ rfl
    cases E1 with
    | none => rfl
    | some e =>
      obtain ⟨rfl, -⟩ := h1 _ rfl
      have H1 : mulO (some (a1, b1)) halfQ = ratQ (1 * a1) (2 * b1) := by
        show ratQ (a1 * 1) (b1 * 2) = _
        rw [Int.mul_comm a1, Int.mul_comm b1]
      rw [H1]
      have g2 : ∀ x, ratQ (1 * a1) (2 * b1) = some x → x = (c1, e1) ∧ isR c1 e1 = true := h2
      have g3 : ∀ x, ((ratQ (1 * a1) (2 * b1)).bind fun _ => E2) = some x → x = (a2, b2) ∧ isR a2 b2 = true := h3
      have g4 : ∀ x, (((ratQ (1 * a1) (2 * b1)).bind fun _ => E2).bind fun _ => ratQ (1 * a2) (2 * b2)) = some x → x = (c2, e2) ∧ isR c2 e2 = true := h4
      have g5 : ∀ x, ((((ratQ (1 * a1) (2 * b1)).bind fun _ => E2).bind fun _ => ratQ (1 * a2) (2 * b2)).bind fun _ => ratQ (a0 * e1 + m1 * b0) (b0 * e1)) = some x → x = (a3, b3) ∧ isR a3 b3 = true := h5
      clear h2 h3 h4 h5
      show ((((ratQ (1 * a1) (2 * b1)).bind fun _ => E2).bind fun _ => ratQ (1 * a2) (2 * b2)).bind fun _ => ratQ (a0 * e1 + m1 * b0) (b0 * e1)).bind _ = subO (subO (some (a0, b0)) (ratQ (1 * a1) (2 * b1))) (mulO E2 halfQ)
      cases hq1 : ratQ (1 * a1) (2 * b1) with
      | none => rfl
      | some x1 =>
        obtain ⟨rfl, r1⟩ := g2 _ hq1
        rw [hm1 r1] at g5 ⊢
        rw [hq1] at g3 g4 g5
        have HS : subO (some (a0, b0)) (some (c1, e1)) = ratQ (a0 * e1 + -c1 * b0) (b0 * e1) := by
          show ratQ (a0 * e1 - c1 * b0) (b0 * e1) = _
          rw [Int.neg_mul]; rfl
        rw [HS]
        cases E2 with
        | none => cases ratQ (a0 * e1 + -c1 * b0) (b0 * e1) <;> rfl
        | some y =>
          obtain ⟨rfl, -⟩ := g3 _ rfl
          have H2 : mulO (some (a2, b2)) halfQ = ratQ (1 * a2) (2 * b2) := by
            show ratQ (a2 * 1) (b2 * 2) = _
            rw [Int.mul_comm a2, Int.mul_comm b2]
          rw [H2]
          have g4' : ∀ x, ratQ (1 * a2) (2 * b2) = some x → x = (c2, e2) ∧ isR c2 e2 = true := g4
          have g5' : ∀ x, ((ratQ (1 * a2) (2 * b2)).bind fun _ => ratQ (a0 * e1 + -c1 * b0) (b0 * e1)) = some x → x = (a3, b3) ∧ isR a3 b3 = true := g5
          show ((ratQ (1 * a2) (2 * b2)).bind fun _ => ratQ (a0 * e1 + -c1 * b0) (b0 * e1)).bind _ = _
          cases hq2 : ratQ (1 * a2) (2 * b2) with
          | none => cases ratQ (a0 * e1 + -c1 * b0) (b0 * e1) <;> rfl
          | some x2 =>
            obtain ⟨rfl, r2⟩ := g4' _ hq2
            rw [hm2 r2]
            rw [hq2] at g5'
            cases hq3 : ratQ (a0 * e1 + -c1 * b0) (b0 * e1) with
            | none => rfl
            | some x3 =>
              obtain ⟨rfl, -⟩ := g5' x3 hq3
              show ratQ (a3 * e2 + -c2 * b3) (b3 * e2) = ratQ (a3 * e2 - c2 * b3) (b3 * e2)
              rw [Int.neg_mul]; rfl
set_option maxRecDepth 100000 in
set_option maxHeartbeats 4000000 in
theorem spec_RiskPremium_c (A : Option Addr) (n c : Nat) (S : List Int) (B : Option Addr) (m d : Nat) (P : List Int) (p o k : Int) (w : World) (hn : S.length = n) (hm : n ≤ 1048576) (hr : RI w A S) (hn' : P.length = m) (hm' : m ≤ 1048576) (hr' : RI w B P) (hmd : m ≤ d) (hk1 : k ≤ 9223372036854775807) (hk0 : -9223372036854775808 ≤ k) :
    Calls Try.prog 37 #[.slice A n c, .slice B m d, .int .i64 p, .int .i64 o, .int .i64 k] w (RR w (rpN S P p o k) (rpD S P p o k) (rpE S P p o k)) := by
  have HN := Lib.hid hn
  have HN' := Lib.hid hn'
  have res0 := Lib.hid (R2.new w 0 0)
  clear hn hn'
  cases h1 : prizesB S P
  · have HV := Lib.hid (rp_no (S := S) (P := P) (p := p) (o := o) (n := k) (c := 1) (by simp [rpC, h1]) (by decide))
    go_enter Try.func37, Try.ntmps37
    go_wp2_with fail
    refine (spec_ArePrizes_b _ _ _ S _ _ _ P _ HN.out hm (RI.al hr _) HN'.out hm' (RI.al hr' _)).mono ?_
    rintro e w1 ⟨rfl, b1⟩
    rw [h1]
    have BW1 := Lib.hid ((below_al w (.cells #[.int .i64 0, .int .i64 0] 31)).trans (b1.mono (by simp)))
    have res1 := Lib.hid (res0.out.below b1)
    obtain ⟨r0, r1, f2, f3⟩ := res1.out.cells
    clear b1 h1
    go_wp2_with fail
    refine bodyPost_ret (v := .tuple #[.agg #[.int .i64 0, .int .i64 0], .int .i64 1]) (by simp [results, Try.results37, go_sem, r0, r1]) rfl ?_
    exact RR.mk HV.out.1.symm HV.out.2.1.symm HV.out.2.2.symm ((BW1.out.setCell (p := ⟨w.heap.size, 0, none⟩) (Nat.le_refl _) _).setCell (p := ⟨w.heap.size, 1, none⟩) (Nat.le_refl _) _)
  have H1 := Lib.hid h1
  have HF := Lib.hid (prizesB_iff.1 h1).1
  obtain ⟨c1, hc1⟩ : ∃ c1, trC S o p k = c1 := ⟨_, rfl⟩
  obtain ⟨c2, hc2⟩ : ∃ c2, trC S p o k = c2 := ⟨_, rfl⟩
  have HC1 := Lib.hid hc1
  have HC2 := Lib.hid hc2
  clear h1 hc1 hc2
  by_cases z1 : c1 = 0
  · by_cases z2 : c2 = 0
    · subst z1
      subst z2
      have hC : rpC S P p o k = 0 := by unfold rpC; rw [if_pos H1.out, HC1.out, if_pos rfl, HC2.out]
      obtain ⟨i, j, x, y, -, hpj, -, hj, -⟩ := tr_ok HF.out HC1.out
      subst hpj
      have ok0 := prizes_ic H1.out hj
      have ok1 := prizes_ic (i := j) (tr_prizes H1.out HC1.out) (by rw [tr_len]; exact hj)
      have ok2 := prizes_ic (i := j) (tr_prizes H1.out HC2.out) (by rw [tr_len]; exact hj)
      have HV : Hid (rpN S P j o k = qN (rpQ S P j o k) ∧ rpD S P j o k = qD (rpQ S P j o k) ∧ rpE S P j o k = cdQ (rpQ S P j o k)) := Lib.hid (by
        obtain ⟨q1, q2, q3⟩ := q_ic (rpQ S P j o k)
        unfold rpN rpD rpE
        rw [if_pos hC, if_pos hC, if_pos hC, q1, q2, q3]
        exact ⟨rfl, rfl, rfl⟩)
      have HQ := Lib.hid (show rpQ S P j o k = subO (subO (icm P S j) (mulO (icm P (trL S o j k) j) halfQ)) (mulO (icm P (trL S j o k) j) halfQ) from rfl)
      have n5 := ok0.n
      have hP := ok0.l1
      have LT1 := Lib.hid (show (trL S o j k).length = n by rw [tr_len, HN.out])
      have LT2 := Lib.hid (show (trL S j o k).length = n by rw [tr_len, HN.out])
      have nn1 : 1 ≤ n := by have := HN.out; omega
      clear hC
      go_enter Try.func37, Try.ntmps37
      go_wp2_with fail
      refine (spec_ArePrizes_b _ _ _ S _ _ _ P _ HN.out hm (RI.al hr _) HN'.out hm' (RI.al hr' _)).mono ?_
      rintro e w1 ⟨rfl, b1⟩
      rw [H1.out]
      have BW1 := Lib.hid ((below_al w (.cells #[.int .i64 0, .int .i64 0] 31)).trans (b1.mono (by simp)))
      have res1 := Lib.hid (res0.out.below b1)
      have rS1 := Lib.hid (hr.below BW1.out)
      clear b1
      go_wp2_with fail
      refine (spec_l29Can_c _ _ _ S _ _ _ _ HN.out hm rS1.out HF.out hk1 hk0).mono ?_
      rintro e w' ⟨rfl, rfl⟩
      rw [HC1.out]
      go_wp2_with fail
      refine (spec_l29Can_c _ _ _ S _ _ _ _ HN.out hm rS1.out HF.out hk1 hk0).mono ?_
      rintro e w' ⟨rfl, rfl⟩
      rw [HC2.out]
      go_wp2_with fail
      obtain ⟨w2, hw2⟩ : ∃ w2 : World, w2 = (w1.alloc (.cells #[.int .i64 0] 71)) := ⟨_, rfl⟩
      obtain ⟨s, hs⟩ : ∃ s : Nat, s = w1.heap.size := ⟨_, rfl⟩
      rw [← hw2, ← hs]
      have hst2 : Hid (St w2 s (cdQ (some (0, 1)))) := Lib.hid (by rw [hw2, hs]; exact St.new w1 0)
      have BW2 : Hid (Below w.heap.size w w2) := Lib.hid (by rw [hw2]; exact below_step BW1.out (below_al w1 _) BW1.out.size)
      have res2 : Hid (R2 w2 w.heap.size 0 0) := Lib.hid (by rw [hw2]; exact res1.out.below (below_al w1 _))
      have s1 : w.heap.size ≤ s := by rw [hs]; exact BW1.out.size
      have s2 : w.heap.size < s := by rw [hs]; exact res1.out.lt
      have neS := Lib.hid (hr.ne (s := s) (by have := HN.out; omega) s1)
      have neP := Lib.hid (hr'.ne (s := s) (by omega) s1)
      clear hw2 hs rS1
      refine (spec_l29Of_c S P (some (0, 1)) s j n c m d A B _ HN.out HN'.out ok0 hst2.out (hr.below BW2.out) (hr'.below BW2.out) neS.out neP.out).mono ?_
      rintro e w3 ⟨a0, b0, rfl, sq3, k3⟩
      have SQ0 : Hid (SQ w3 s (icm P S j) a0 b0) := Lib.hid sq3
      have BW3 := Lib.hid (BW2.out.trans (k3.below s1 BW2.out.size))
      have res3 := Lib.hid (res2.out.kept k3 (by omega))
      clear sq3 k3 BW2 res2 hst2
      -- the own equity lies in a block
      have o0 := Lib.hid (R2.new w3 a0 b0)
      go_wp2_with fail
      refine (spec_l29Transfer_c _ _ _ S _ _ _ _ HN.out hm (RI.al (hr.below BW3.out) _) HF.out HC1.out).mono ?_
      rintro e w4 ⟨g4, c4, rfl, ow4, b4⟩
      have BW4 := Lib.hid (below_step (below_step BW3.out (below_al w3 _) BW3.out.size) b4 (below_step BW3.out (below_al w3 _) BW3.out.size).size)
      have res4 := Lib.hid ((res3.out.below (below_al w3 _)).below b4)
      have o4 := Lib.hid (o0.out.below b4)
      have st4 := Lib.hid (SQ0.out.st.al.below b4)
      have T1 := Lib.hid ow4.ri
      have g4s : s < g4 := by have h1 := (OI.lt ow4 (by rw [LT1.out]; omega)).1; have := SQ0.out.st.lt; simp at h1; omega
      clear b4 ow4 o0
      go_wp2_with fail
      refine (spec_l29Of_c (trL S o j k) P _ s j n c4 m d _ B _ LT1.out HN'.out ok1 st4.out T1.out (hr'.below BW4.out) (fun a e => by injection e with e; subst e; show ¬ g4 = s; omega) neP.out).mono ?_
      rintro e w5 ⟨a1, b1, rfl, sq5, k5⟩
      have SQ1 := Lib.hid sq5
      have BW5 := Lib.hid (BW4.out.trans (k5.below s1 BW4.out.size))
      have res5 := Lib.hid (res4.out.kept k5 (by omega))
      have lo3 : s < w3.heap.size := SQ0.out.st.lt
      have o5 := Lib.hid (o4.out.kept k5 (by omega))
      clear sq5 k5 BW4 res4 o4 st4 T1
      go_wp2_with fail
      refine (spec_l19Times_c s _ 1 2 a1 b1 _ SQ1.out.st (fun v hv => ⟨half_ok, (SQ1.out.v v hv).2⟩)).mono ?_
      rintro e w6 ⟨e1, f1, rfl, sq6, k6⟩
      have SQ2 := Lib.hid sq6
      have BW6 := Lib.hid (BW5.out.trans (k6.below s1 BW5.out.size))
      have res6 := Lib.hid (res5.out.kept k6 (by omega))
      have o6 := Lib.hid (o5.out.kept k6 (by omega))
      clear sq6 k6 BW5 res5 o5
      have p6 := Lib.hid (R2.new w6 e1 f1)
      go_wp2_with fail
      refine (spec_l29Transfer_c _ _ _ S _ _ _ _ HN.out hm (RI.al (hr.below BW6.out) _) HF.out HC2.out).mono ?_
      rintro e w7 ⟨g7, c7, rfl, ow7, b7⟩
      have BW7 := Lib.hid (below_step (below_step BW6.out (below_al w6 _) BW6.out.size) b7 (below_step BW6.out (below_al w6 _) BW6.out.size).size)
      have res7 := Lib.hid ((res6.out.below (below_al w6 _)).below b7)
      have o7 := Lib.hid ((o6.out.below (below_al w6 _)).below b7)
      have p7 := Lib.hid (p6.out.below b7)
      have st7 := Lib.hid (SQ2.out.st.al.below b7)
      have T2 := Lib.hid ow7.ri
      have lo6 : s < w6.heap.size := SQ2.out.st.lt
      have g7s : s < g7 := by have h1 := (OI.lt ow7 (by rw [LT2.out]; omega)).1; simp at h1; omega
      clear b7 ow7 o6 p6 res6 BW6
      go_wp2_with fail
      refine (spec_l29Of_c (trL S j o k) P _ s j n c7 m d _ B _ LT2.out HN'.out ok2 st7.out T2.out (hr'.below BW7.out) (fun a e => by injection e with e; subst e; show ¬ g7 = s; omega) neP.out).mono ?_
      rintro e w8 ⟨a2, b2, rfl, sq8, k8⟩
      have SQ3 := Lib.hid sq8
      have BW8 := Lib.hid (BW7.out.trans (k8.below s1 BW7.out.size))
      have res8 := Lib.hid (res7.out.kept k8 (by omega))
      have o8 := Lib.hid (o7.out.kept k8 (by omega))
      have p8 := Lib.hid (p7.out.kept k8 (by omega))
      clear sq8 k8 BW7 res7 o7 p7 st7 T2
      go_wp2_with fail
      refine (spec_l19Times_c s _ 1 2 a2 b2 _ SQ3.out.st (fun v hv => ⟨half_ok, (SQ3.out.v v hv).2⟩)).mono ?_
      rintro e w9 ⟨e2, f2, rfl, sq9, k9⟩
      have SQ4 := Lib.hid sq9
      have BW9 := Lib.hid (BW8.out.trans (k9.below s1 BW8.out.size))
      have res9 := Lib.hid (res8.out.kept k9 (by omega))
      have o9 := Lib.hid (o8.out.kept k9 (by omega))
      have p9 := Lib.hid (p8.out.kept k9 (by omega))
      have lo9 : s < w9.heap.size := SQ4.out.st.lt
      clear sq9 k9 BW8 res8 o8 p8
      have q9 := Lib.hid (R2.new w9 e2 f2)
      obtain ⟨u0, u1, -, -⟩ := o9.out.cells
      obtain ⟨u2, u3, -, -⟩ := p9.out.cells
      have ol9 := o9.out.lt
      have pl9 := p9.out.lt
      go_wp2_with fail
      refine (spec_l19Add_c s _ a0 b0 _ f1 _ SQ4.out.st.al (fun v hv => ⟨by
          obtain ⟨y, hy⟩ := bind_some hv
          obtain ⟨y, hy⟩ := bind_some hy
          obtain ⟨y, hy⟩ := bind_some hy
          obtain ⟨y, hy⟩ := bind_some hy
          exact (SQ0.out.v y hy).2, by
          obtain ⟨y, hy⟩ := bind_some hv
          obtain ⟨y, hy⟩ := bind_some hy
          rw [wrap_neg (SQ2.out.v y hy).2]
          exact isR_neg (SQ2.out.v y hy).2⟩)).mono ?_
      rintro e w10 ⟨a3, b3, rfl, sq10, k10⟩
      have SQ5 := Lib.hid sq10
      have BW10 := Lib.hid ((below_step BW9.out (below_al w9 _) BW9.out.size).trans (k10.below s1 (below_step BW9.out (below_al w9 _) BW9.out.size).size))
      have res10 := Lib.hid ((res9.out.below (below_al w9 _)).kept k10 (by omega))
      have q10 := Lib.hid (q9.out.kept k10 (by omega))
      have lo10 : s < w10.heap.size := SQ5.out.st.lt
      clear sq10 k10 BW9 res9 o9 p9 q9 u0 u1 u2 u3
      obtain ⟨u0, u1, -, -⟩ := q10.out.cells
      have ql10 := q10.out.lt
      go_wp2_with fail
      refine (spec_l19Add_c s _ a3 b3 _ f2 _ SQ5.out.st.al (fun v hv => ⟨(SQ5.out.v v hv).2, by
          obtain ⟨y, hy⟩ := bind_some hv
          rw [wrap_neg (SQ4.out.v y hy).2]
          exact isR_neg (SQ4.out.v y hy).2⟩)).mono ?_
      rintro e w11 ⟨a4, b4, rfl, sq11, k11⟩
      rw [rp_join SQ0.out.v SQ1.out.v SQ2.out.v SQ3.out.v SQ4.out.v wrap_neg wrap_neg SQ5.out.v, ← HQ.out] at sq11
      have SQ6 := Lib.hid sq11
      have BW11 := Lib.hid ((below_step BW10.out (below_al w10 _) BW10.out.size).trans (k11.below s1 (below_step BW10.out (below_al w10 _) BW10.out.size).size))
      have res11 := Lib.hid ((res10.out.below (below_al w10 _)).kept k11 (by omega))
      clear sq11 k11 BW10 res10 q10 u0 u1
      go_wp2_with fail
      refine (spec_l19Result_c s _ a4 b4 _ SQ6.out).mono ?_
      rintro e w12 ⟨rfl, b12⟩
      have res12 := Lib.hid (res11.out.below b12)
      have BW12 := Lib.hid (below_step BW11.out b12 BW11.out.size)
      obtain ⟨r0, r1, t2, t3⟩ := res12.out.cells
      clear b12
      go_wp2_with fail
      refine bodyPost_ret (v := .tuple #[.agg #[.int .i64 (qN (rpQ S P j o k)), .int .i64 (qD (rpQ S P j o k))], .int .i64 (cdQ (rpQ S P j o k))]) (by simp [results, Try.results37, go_sem, r0, r1]) rfl ?_
      exact RR.mk HV.out.1.symm HV.out.2.1.symm HV.out.2.2.symm ((BW12.out.setCell (p := ⟨w.heap.size, 0, none⟩) (Nat.le_refl _) _).setCell (p := ⟨w.heap.size, 1, none⟩) (Nat.le_refl _) _)
    · subst z1
      have HV := Lib.hid (rp_no (S := S) (P := P) (p := p) (o := o) (n := k) (c := c2) (by unfold rpC; rw [if_pos H1.out, HC1.out, if_pos rfl, HC2.out]) z2)
      have hB : (c2 == 0) = false := by simp [z2]
      have hB' : (c2 != 0) = true := by simp [z2]
      go_enter Try.func37, Try.ntmps37
      go_wp2_with fail
      refine (spec_ArePrizes_b _ _ _ S _ _ _ P _ HN.out hm (RI.al hr _) HN'.out hm' (RI.al hr' _)).mono ?_
      rintro e w1 ⟨rfl, b1⟩
      rw [H1.out]
      have BW1 := Lib.hid ((below_al w (.cells #[.int .i64 0, .int .i64 0] 31)).trans (b1.mono (by simp)))
      have res1 := Lib.hid (res0.out.below b1)
      have rS1 := Lib.hid (hr.below BW1.out)
      clear b1
      go_wp2_with fail
      refine (spec_l29Can_c _ _ _ S _ _ _ _ HN.out hm rS1.out HF.out hk1 hk0).mono ?_
      rintro e w' ⟨rfl, rfl⟩
      rw [HC1.out]
      go_wp2_with fail
      refine (spec_l29Can_c _ _ _ S _ _ _ _ HN.out hm rS1.out HF.out hk1 hk0).mono ?_
      rintro e w' ⟨rfl, rfl⟩
      rw [HC2.out]
      obtain ⟨r0, r1, f2, f3⟩ := res1.out.cells
      go_wp2_with fail
      refine bodyPost_ret (v := .tuple #[.agg #[.int .i64 0, .int .i64 0], .int .i64 c2]) (by simp [results, Try.results37, go_sem, r0, r1]) rfl ?_
      exact RR.mk HV.out.1.symm HV.out.2.1.symm HV.out.2.2.symm ((BW1.out.setCell (p := ⟨w.heap.size, 0, none⟩) (Nat.le_refl _) _).setCell (p := ⟨w.heap.size, 1, none⟩) (Nat.le_refl _) _)
  · have HV := Lib.hid (rp_no (S := S) (P := P) (p := p) (o := o) (n := k) (c := c1) (by unfold rpC; rw [if_pos H1.out, HC1.out, if_neg z1]) z1)
    have hB : (c1 == 0) = false := by simp [z1]
    have hB' : (c1 != 0) = true := by simp [z1]
    go_enter Try.func37, Try.ntmps37
    go_wp2_with fail
    refine (spec_ArePrizes_b _ _ _ S _ _ _ P _ HN.out hm (RI.al hr _) HN'.out hm' (RI.al hr' _)).mono ?_
    rintro e w1 ⟨rfl, b1⟩
    rw [H1.out]
    have BW1 := Lib.hid ((below_al w (.cells #[.int .i64 0, .int .i64 0] 31)).trans (b1.mono (by simp)))
    have res1 := Lib.hid (res0.out.below b1)
    have rS1 := Lib.hid (hr.below BW1.out)
    clear b1
    go_wp2_with fail
    refine (spec_l29Can_c _ _ _ S _ _ _ _ HN.out hm rS1.out HF.out hk1 hk0).mono ?_
    rintro e w' ⟨rfl, rfl⟩
    rw [HC1.out]
    obtain ⟨r0, r1, f2, f3⟩ := res1.out.cells
    go_wp2_with fail
    refine bodyPost_ret (v := .tuple #[.agg #[.int .i64 0, .int .i64 0], .int .i64 c1]) (by simp [results, Try.results37, go_sem, r0, r1]) rfl ?_
    exact RR.mk HV.out.1.symm HV.out.2.1.symm HV.out.2.2.symm ((BW1.out.setCell (p := ⟨w.heap.size, 0, none⟩) (Nat.le_refl _) _).setCell (p := ⟨w.heap.size, 1, none⟩) (Nat.le_refl _) _)
/-- The premium after k of the two halves. -/
def rpK (S P : List Int) (j : Nat) (o n : Int) : Nat → Option (Int × Int)
  | 0 => icm P S j
  | 1 => subO (icm P S j) (mulO (icm P (trL S o j n) j) halfQ)
  | _ + 2 => subO (subO (icm P S j) (mulO (icm P (trL S o j n) j) halfQ)) (mulO (icm P (trL S j o n) j) halfQ)
theorem rpK0 {S P : List Int} {j : Nat} {o n : Int} : rpK S P j o n (0 + 1) = subO (rpK S P j o n 0) (mulO (icm P (trL S o j n) j) halfQ) := rfl
theorem rpK1 {S P : List Int} {j : Nat} {o n : Int} : rpK S P j o n (1 + 1) = subO (rpK S P j o n 1) (mulO (icm P (trL S j o n) j) halfQ) := rfl
theorem rpK_none {S P : List Int} {j' : Nat} {o n : Int} {k j : Nat} (hk : k ≤ j) (h : rpK S P j' o n k = none) (hj : j ≤ 2 := by omega) : rpK S P j' o n j = none := by
  have s1 : rpK S P j' o n 0 = none → rpK S P j' o n 1 = none := fun h => by
    show subO (rpK S P j' o n 0) _ = none
    rw [h]; rfl
  have s2 : rpK S P j' o n 1 = none → rpK S P j' o n 2 = none := fun h => by
    show subO (rpK S P j' o n 1) _ = none
    rw [h]; rfl
  match k, j with
  | 0, 0 => exact h
  | 0, 1 => exact s1 h
  | 0, 2 => exact s2 (s1 h)
  | 1, 1 => exact h
  | 1, 2 => exact s2 h
  | 2, 2 => exact h
  | k + 3, j => omega
  | 0, j + 3 => omega
  | 1, 0 => omega
  | 1, j + 3 => omega
  | 2, 0 => omega
  | 2, 1 => omega
  | 2, j + 3 => omega
theorem rp_none {S P : List Int} {p o n : Int} (hC : rpC S P p o n = 0) (h : rpQ S P p o n = none) : rpN S P p o n = 0 ∧ rpD S P p o n = 0 ∧ rpE S P p o n = 3 := by
  unfold rpN rpD rpE
  rw [if_pos hC, if_pos hC, if_pos hC, h]
  exact ⟨rfl, rfl, rfl⟩
theorem Hid_symm {α : Type} {a b : α} (h : Hid (a = b)) : Hid (b = a) := Lib.hid h.out.symm
theorem tr_e {S : List Int} {f t k : Int} (h : fieldB S = true) : trE S f t k = trC S f t k := by unfold trE; rw [if_pos h]
theorem tr_v {S : List Int} {f t k : Int} (h : fieldB S = true) (h0 : trC S f t k = 0) : trV S f t k = trL S f t k := by unfold trV; rw [tr_e h, if_pos h0]
theorem info_ints : (Try.prog.info? 22).map (fun i => (i.zero, i.size, i.bytes)) = some (some (.slice none 0 0), 1, 24) := by kernel_rfl
theorem run_pair0 (x y : Option Addr) (n c m d : Nat) (k : IntKind) (w : World) : (Instr.index 79 (.agg #[.slice x n c, .slice y m d]) (.int k 0)).run Try.prog w = .ok (.slice x n c) w := by
  obtain ⟨i0, hi, hz0, hz1, hz2⟩ := info_parts info_ints
  have h := Try.underlying79
  have h2 := Try.underlying22
  simp [Instr.index, run_underlying h, run_underlying h2, asIntOf, part, isAgg, sizeOf, typeInfo, go_sem, hi, hz1]
theorem run_pair1 (x y : Option Addr) (n c m d : Nat) (k : IntKind) (w : World) : (Instr.index 79 (.agg #[.slice x n c, .slice y m d]) (.int k 1)).run Try.prog w = .ok (.slice y m d) w := by
  obtain ⟨i0, hi, hz0, hz1, hz2⟩ := info_parts info_ints
  have h := Try.underlying79
  have h2 := Try.underlying22
  simp [Instr.index, run_underlying h, run_underlying h2, asIntOf, part, isAgg, sizeOf, typeInfo, go_sem, hi, hz1]
set_option maxRecDepth 100000 in
set_option maxHeartbeats 4000000 in
theorem impl_RiskPremium_c (A : Option Addr) (n c : Nat) (S : List Int) (B : Option Addr) (m d : Nat) (P : List Int) (p o k : Int) (w : World) (hn : S.length = n) (hm : n ≤ 1048576) (hr : RI w A S) (hn' : P.length = m) (hm' : m ≤ 1048576) (hr' : RI w B P) (hmd : m ≤ d) (hk1 : k ≤ 9223372036854775807) (hk0 : -9223372036854775808 ≤ k) :
    Calls Try.prog 38 #[.slice A n c, .slice B m d, .int .i64 p, .int .i64 o, .int .i64 k] w (RR w (rpN S P p o k) (rpD S P p o k) (rpE S P p o k)) := by
  have HN := Lib.hid hn
  have HN' := Lib.hid hn'
  have res0 := Lib.hid (R2.new w 0 0)
  clear hn hn'
  cases h1 : prizesB S P
  · have HV := Lib.hid (rp_no (S := S) (P := P) (p := p) (o := o) (n := k) (c := 1) (by simp [rpC, h1]) (by decide))
    go_enter Try.func38, Try.ntmps38
    go_wp2_with fail
    refine (impl_ArePrizes_b _ _ _ S _ _ _ P _ HN.out hm (RI.al hr _) HN'.out hm' (RI.al hr' _)).mono ?_
    rintro e w1 ⟨rfl, b1⟩
    rw [h1]
    have BW1 := Lib.hid ((below_al w (.cells #[.int .i64 0, .int .i64 0] 31)).trans (b1.mono (by simp)))
    have res1 := Lib.hid (res0.out.below b1)
    clear b1 h1
    obtain ⟨r0, r1, f2, f3⟩ := res1.out.cells
    go_wp2_with fail
    refine bodyPost_ret (v := .tuple #[.agg #[.int .i64 0, .int .i64 0], .int .i64 1]) (by simp [results, Try.results38, go_sem, r0, r1]) rfl ?_
    exact RR.mk HV.out.1.symm HV.out.2.1.symm HV.out.2.2.symm ((BW1.out.setCell (p := ⟨w.heap.size, 0, none⟩) (Nat.le_refl _) _).setCell (p := ⟨w.heap.size, 1, none⟩) (Nat.le_refl _) _)
  have H1 := Lib.hid h1
  have HF := Lib.hid (prizesB_iff.1 h1).1
  obtain ⟨c1, hc1⟩ : ∃ c1, trC S o p k = c1 := ⟨_, rfl⟩
  obtain ⟨c2, hc2⟩ : ∃ c2, trC S p o k = c2 := ⟨_, rfl⟩
  have HC1 := Lib.hid hc1
  have HC2 := Lib.hid hc2
  have TE1 := Lib.hid (show trE S o p k = c1 by rw [tr_e HF.out, hc1])
  have TE2 := Lib.hid (show trE S p o k = c2 by rw [tr_e HF.out, hc2])
  clear h1 hc1 hc2
  by_cases z1 : c1 = 0
  · by_cases z2 : c2 = 0
    · subst z1
      subst z2
      have hC : rpC S P p o k = 0 := by unfold rpC; rw [if_pos H1.out, HC1.out, if_pos rfl, HC2.out]
      obtain ⟨i, j, x, y, -, hpj, -, hj, -⟩ := tr_ok HF.out HC1.out
      subst hpj
      have ok0 := prizes_ic H1.out hj
      have ok1 := prizes_ic (i := j) (tr_prizes H1.out HC1.out) (by rw [tr_len]; exact hj)
      have ok2 := prizes_ic (i := j) (tr_prizes H1.out HC2.out) (by rw [tr_len]; exact hj)
      have HC := Lib.hid hC
      have HR := Lib.hid (show rpQ S P j o k = rpK S P j o k 2 from rfl)
      clear hC
      go_enter Try.func38, Try.ntmps38
      go_wp2_with fail
      refine (impl_ArePrizes_b _ _ _ S _ _ _ P _ HN.out hm (RI.al hr _) HN'.out hm' (RI.al hr' _)).mono ?_
      rintro e w1 ⟨rfl, b1⟩
      rw [H1.out]
      have BW1 := Lib.hid ((below_al w (.cells #[.int .i64 0, .int .i64 0] 31)).trans (b1.mono (by simp)))
      have res1 := Lib.hid (res0.out.below b1)
      clear b1
      go_wp2_with fail
      refine (impl_TransferChips_c _ _ _ S _ _ _ _ HN.out hm (hr.below BW1.out) hk1 hk0).mono ?_
      rintro e w2 ⟨G1, n1, m1, rfl, hl1, hz1, ho1, b2⟩
      rw [TE1.out]
      have BW2 := Lib.hid (below_step BW1.out b2 BW1.out.size)
      have res2 := Lib.hid (res1.out.below b2)
      clear b2 BW1 res1
      go_wp2_with fail
      refine (impl_TransferChips_c _ _ _ S _ _ _ _ HN.out hm (hr.below BW2.out) hk1 hk0).mono ?_
      rintro e w3 ⟨G2, n2, m2, rfl, hl2, hz2, ho2, b3⟩
      rw [TE2.out]
      have BW3 := Lib.hid (below_step BW2.out b3 BW2.out.size)
      have res3 := Lib.hid (res2.out.below b3)
      rw [tr_v HF.out HC1.out] at hl1 ho1
      rw [tr_v HF.out HC2.out] at hl2 ho2
      have RI1 := Lib.hid (ho1.ri.below b3)
      have RI2 := Lib.hid ho2.ri
      clear b3 ho1 ho2 BW2 res2
      go_wp2_with fail
      refine (impl_equityIn_c S P j n c m d A B _ HN.out HN'.out hmd ok0 (hr.below BW3.out) (hr'.below BW3.out)).mono ?_
      rintro e w4 ⟨rfl, b4⟩
      have B4 := Lib.hid b4
      have BW4 := Lib.hid (below_step BW3.out b4 BW3.out.size)
      have res4 := Lib.hid (res3.out.below b4)
      obtain ⟨gp, hgp⟩ : ∃ gp : Nat, gp = w4.heap.size := ⟨_, rfl⟩
      have lgp : w.heap.size < gp := by rw [hgp]; exact res4.out.lt
      have lgp3 : w3.heap.size ≤ gp := by rw [hgp]; exact b4.size
      have HG := Lib.hid hgp
      have ps4 := Lib.hid (fun x (hx : icm P S j = some x) => (icm_val P S j x (fun x hx => by have := ok0.s x hx; omega) ok0.i hx).1)
      clear b4
      go_wp2_with fail
      rw [← hgp]
      go_loopw [13, 60] (fun t u wr => ∃ (kk : Nat) (q : Option (Int × Int)), t = .int .i64 (icE q) ∧ u = .int .i64 kk ∧ kk ≤ 2 ∧ Hid (q = rpK S P j o k kk) ∧ Hid (∀ x, q = some x → isR x.1 x.2 = true) ∧ Hid (R2 wr gp (icN q) (icD q)) ∧ Hid (R2 wr w.heap.size 0 0) ∧ Hid (Below w.heap.size w wr) ∧ Hid (Below w3.heap.size w3 wr)) (fun _ u _ => 2 - (intOf u).toNat)
      case atStart =>
        refine ⟨0, icm P S j, rfl, rfl, by omega, Lib.hid rfl, Lib.hid (fun x hx => ps4.out x hx), Lib.hid ?_, Lib.hid (res4.out.below (below_al w4 _)), Lib.hid (below_step BW4.out (below_al w4 _) BW4.out.size), Lib.hid (below_step B4.out (below_al w4 _) B4.out.size)⟩
        rw [HG.out]
        exact R2.new w4 _ _
      case round =>
        clear hgp
        obtain ⟨kk, q, rfl, rfl, hkk, hK, hR, hg, hres, hbw, hbx⟩ := hrel
        have hp0 := run_pair0 G1 G2 n1 m1 n2 m2 .i64
        have hp1 := run_pair1 G1 G2 n1 m1 n2 m2 .i64
        rcases (show kk = 0 ∨ kk = 1 ∨ kk = 2 by omega) with rfl | rfl | rfl
        · -- round 0
          rcases hq : q with _ | ⟨N, D⟩
          · have HVN := Lib.hid (rp_none (S := S) (P := P) (p := j) (o := o) (n := k) HC.out (by rw [HR.out]; exact rpK_none (k := 0) (j := 2) (by omega) (by rw [← hK.out, hq])))
            rw [hq] at hg
            rw [show icE none = 3 from rfl]
            clear hq hR hK
            rw [show ((0 : Nat) : Int) = 0 from rfl]
            obtain ⟨r0, r1, f2, f3⟩ := hres.out.cells
            go_wp2_with fail
            refine bodyPost_ret (v := .tuple #[.agg #[.int .i64 0, .int .i64 0], .int .i64 3]) (by simp [results, Try.results38, go_sem, r0, r1]) rfl ?_
            exact RR.mk HVN.out.1.symm HVN.out.2.1.symm HVN.out.2.2.symm ((hbw.out.setCell (p := ⟨w.heap.size, 0, none⟩) (Nat.le_refl _) _).setCell (p := ⟨w.heap.size, 1, none⟩) (Nat.le_refl _) _)

          · rw [hq] at hg hR hK
            rw [show icE (some (N, D)) = 0 from rfl]
            rw [show ((0 : Nat) : Int) = 0 from rfl]
            have HRK := Lib.hid (hR.out (N, D) rfl)
            have hg' : Hid (R2 wr gp N D) := hg
            clear hq hg hR
            go_wp2_with fail
            refine (impl_equityIn_c (trL S o j k) P j _ _ m d _ _ _ hl1.out HN'.out hmd ok1 (RI1.out.below hbx.out) (hr'.below hbw.out)).mono ?_
            rintro e w5 ⟨rfl, b5⟩
            have hg5 := Lib.hid (hg'.out.below b5)
            have hres5 := Lib.hid (hres.out.below b5)
            have hbw5 := Lib.hid (below_step hbw.out b5 hbw.out.size)
            have hbx5 := Lib.hid (below_step hbx.out b5 hbx.out.size)
            have lr5 := hres5.out.lt
            have lg5 := hg5.out.lt
            clear b5 hg' hres hbw hbx
            rcases hic : icm P (trL S o j k) j with _ | ⟨a, b⟩
            · have HVN := Lib.hid (rp_none (S := S) (P := P) (p := j) (o := o) (n := k) HC.out (by rw [HR.out]; exact rpK_none (k := 0 + 1) (j := 2) (by omega) (by rw [rpK0, ← hK.out, hic]; rfl)))
              rw [show icN none = 0 from rfl, show icD none = 0 from rfl, show icE none = 3 from rfl]
              clear hic
              obtain ⟨r0, r1, f2, f3⟩ := hres5.out.cells
              go_wp2_with fail
              refine bodyPost_ret (v := .tuple #[.agg #[.int .i64 0, .int .i64 0], .int .i64 3]) (by simp [results, Try.results38, go_sem, r0, r1, lr5]) rfl ?_
              exact RR.mk HVN.out.1.symm HVN.out.2.1.symm HVN.out.2.2.symm (((hbw5.out.setCell (p := ⟨w.heap.size, 0, none⟩) (Nat.le_refl _) _).setCell (p := ⟨w.heap.size, 1, none⟩) (Nat.le_refl _) _).alloc (by simp [World.setCell]; omega) _)
            · rw [show icN (some (a, b)) = a from rfl, show icD (some (a, b)) = b from rfl, show icE (some (a, b)) = 0 from rfl]
              have hRab := (icm_val P (trL S o j k) j (a, b) (fun x hx => by have := ok1.s x hx; omega) ok1.i hic).1
              have HRAB := Lib.hid (show isR a b = true from hRab)
              obtain ⟨-, -, b0, b1, -⟩ := isR_iff.1 hRab
              have HIC := Lib.hid hic
              have n5' := Lib.hid (R2.new w5 a b)
              clear hic hRab
              go_wp2_with fail
              refine (impl_MultiplyRatios_c _ _ _ _ _ HRAB.out half_ok).mono ?_
              rintro e w6 ⟨rfl, b6⟩
              rw [Int.mul_one]
              have hg6 := Lib.hid ((hg5.out.below (below_al w5 _)).below b6)
              have hres6 := Lib.hid ((hres5.out.below (below_al w5 _)).below b6)
              have hbw6 := Lib.hid (below_step (below_step hbw5.out (below_al w5 _) hbw5.out.size) b6 (below_step hbw5.out (below_al w5 _) hbw5.out.size).size)
              have hbx6 := Lib.hid (below_step (below_step hbx5.out (below_al w5 _) hbx5.out.size) b6 (below_step hbx5.out (below_al w5 _) hbx5.out.size).size)
              have lr6 := hres6.out.lt
              have lg6 := hg6.out.lt
              clear b6 hg5 hres5 hbw5 hbx5 n5'
              rcases red_cases a (b * 2) with ⟨he, hq⟩ | ⟨he, hN0, hD0, hq⟩
              · rw [he]
                have hRh : isR (redN a (b * 2)) (redD a (b * 2)) = true := (ratQ_val (by omega) hq).1
                obtain ⟨h, hh⟩ : ∃ h, redN a (b * 2) = h := ⟨_, rfl⟩
                obtain ⟨t, ht⟩ : ∃ t, redD a (b * 2) = t := ⟨_, rfl⟩
                rw [hh, ht] at hRh hq
                rw [hh, ht]
                have HRH := Lib.hid hRh
                have HQH := Lib.hid hq
                obtain ⟨-, -, t0, t1, -⟩ := isR_iff.1 hRh
                obtain ⟨-, -, d0, d1, -⟩ := isR_iff.1 HRK.out
                clear he hq hh ht hRh
                obtain ⟨q0, q1, g2, g3⟩ := hg6.out.cells
                go_wp2_with fail
                refine (impl_SubtractRatios_c _ _ _ _ _ HRK.out HRH.out).mono ?_
                rintro e w7 ⟨rfl, b7⟩
                have hg7 := Lib.hid ((hg6.out.below (below_al w6 _)).below b7)
                have hres7 := Lib.hid ((hres6.out.below (below_al w6 _)).below b7)
                have hbw7 := Lib.hid (below_step (below_step hbw6.out (below_al w6 _) hbw6.out.size) b7 (below_step hbw6.out (below_al w6 _) hbw6.out.size).size)
                have hbx7 := Lib.hid (below_step (below_step hbx6.out (below_al w6 _) hbx6.out.size) b7 (below_step hbx6.out (below_al w6 _) hbx6.out.size).size)
                clear b7 q0 q1 g2 g3 hg6 hres6 hbw6 hbx6
                have HK2 := Lib.hid (show rpK S P j o k (0 + 1) = ratQ (N * t - h * D) (D * t) by
                  rw [rpK0, ← hK.out, HIC.out]
                  show subO (some (N, D)) (ratQ (a * 1) (b * 2)) = _
                  rw [Int.mul_one, HQH.out]
                  rfl)
                obtain ⟨i1, i2, i3⟩ := ic_red (N * t - h * D) (D * t)
                have I1 := Lib.hid i1
                have I2 := Lib.hid i2
                have I3 := Lib.hid i3
                have dt : 0 < D * t := Int.mul_pos (by omega) (by omega)
                have HRV := Lib.hid (fun x (hx : ratQ (N * t - h * D) (D * t) = some x) => (ratQ_val dt hx).1)
                clear i1 i2 i3 dt
                obtain ⟨q0, q1, g2, g3⟩ := hg7.out.cells
                go_wp2_with fail
                go_roundw
                case rel => exact ⟨0 + 1, _, by rw [I3.out], by go_num, by omega, Hid_symm HK2, Lib.hid (fun x hx => HRV.out x hx), by rw [I1.out, I2.out]; exact Lib.hid hg7.out.store, Lib.hid ((hres7.out.far (by show gp ≠ w.heap.size; omega) _).far (by show gp ≠ w.heap.size; omega) _), Lib.hid ((hbw7.out.setCell (p := ⟨gp, 0, none⟩) (by show w.heap.size ≤ gp; omega) _).setCell (p := ⟨gp, 1, none⟩) (by show w.heap.size ≤ gp; omega) _), Lib.hid ((hbx7.out.setCell (p := ⟨gp, 0, none⟩) (by show w3.heap.size ≤ gp; omega) _).setCell (p := ⟨gp, 1, none⟩) (by show w3.heap.size ≤ gp; omega) _)⟩
                case measure => simp [intOf]
              · rw [he]
                have HVN := Lib.hid (rp_none (S := S) (P := P) (p := j) (o := o) (n := k) HC.out (by rw [HR.out]; exact rpK_none (k := 0 + 1) (j := 2) (by omega) (by
                  rw [rpK0, ← hK.out, HIC.out]
                  show subO (some (N, D)) (ratQ (a * 1) (b * 2)) = none
                  rw [Int.mul_one, hq]
                  rfl)))
                clear he hN0 hD0 hq
                obtain ⟨r0, r1, f2, f3⟩ := hres6.out.cells
                go_wp2_with fail
                refine bodyPost_ret (v := .tuple #[.agg #[.int .i64 0, .int .i64 0], .int .i64 3]) (by simp [results, Try.results38, go_sem, r0, r1, lr6]) rfl ?_
                exact RR.mk HVN.out.1.symm HVN.out.2.1.symm HVN.out.2.2.symm (((hbw6.out.setCell (p := ⟨w.heap.size, 0, none⟩) (Nat.le_refl _) _).setCell (p := ⟨w.heap.size, 1, none⟩) (Nat.le_refl _) _).alloc (by simp [World.setCell]; omega) _)
        · -- round 1
          rcases hq : q with _ | ⟨N, D⟩
          · have HVN := Lib.hid (rp_none (S := S) (P := P) (p := j) (o := o) (n := k) HC.out (by rw [HR.out]; exact rpK_none (k := 1) (j := 2) (by omega) (by rw [← hK.out, hq])))
            rw [hq] at hg
            rw [show icE none = 3 from rfl]
            clear hq hR hK
            rw [show ((1 : Nat) : Int) = 1 from rfl]
            obtain ⟨r0, r1, f2, f3⟩ := hres.out.cells
            go_wp2_with fail
            refine bodyPost_ret (v := .tuple #[.agg #[.int .i64 0, .int .i64 0], .int .i64 3]) (by simp [results, Try.results38, go_sem, r0, r1]) rfl ?_
            exact RR.mk HVN.out.1.symm HVN.out.2.1.symm HVN.out.2.2.symm ((hbw.out.setCell (p := ⟨w.heap.size, 0, none⟩) (Nat.le_refl _) _).setCell (p := ⟨w.heap.size, 1, none⟩) (Nat.le_refl _) _)

          · rw [hq] at hg hR hK
            rw [show icE (some (N, D)) = 0 from rfl]
            rw [show ((1 : Nat) : Int) = 1 from rfl]
            have HRK := Lib.hid (hR.out (N, D) rfl)
            have hg' : Hid (R2 wr gp N D) := hg
            clear hq hg hR
            go_wp2_with fail
            refine (impl_equityIn_c (trL S j o k) P j _ _ m d _ _ _ hl2.out HN'.out hmd ok2 (RI2.out.below hbx.out) (hr'.below hbw.out)).mono ?_
            rintro e w5 ⟨rfl, b5⟩
            have hg5 := Lib.hid (hg'.out.below b5)
            have hres5 := Lib.hid (hres.out.below b5)
            have hbw5 := Lib.hid (below_step hbw.out b5 hbw.out.size)
            have hbx5 := Lib.hid (below_step hbx.out b5 hbx.out.size)
            have lr5 := hres5.out.lt
            have lg5 := hg5.out.lt
            clear b5 hg' hres hbw hbx
            rcases hic : icm P (trL S j o k) j with _ | ⟨a, b⟩
            · have HVN := Lib.hid (rp_none (S := S) (P := P) (p := j) (o := o) (n := k) HC.out (by rw [HR.out]; exact rpK_none (k := 1 + 1) (j := 2) (by omega) (by rw [rpK1, ← hK.out, hic]; rfl)))
              rw [show icN none = 0 from rfl, show icD none = 0 from rfl, show icE none = 3 from rfl]
              clear hic
              obtain ⟨r0, r1, f2, f3⟩ := hres5.out.cells
              go_wp2_with fail
              refine bodyPost_ret (v := .tuple #[.agg #[.int .i64 0, .int .i64 0], .int .i64 3]) (by simp [results, Try.results38, go_sem, r0, r1, lr5]) rfl ?_
              exact RR.mk HVN.out.1.symm HVN.out.2.1.symm HVN.out.2.2.symm (((hbw5.out.setCell (p := ⟨w.heap.size, 0, none⟩) (Nat.le_refl _) _).setCell (p := ⟨w.heap.size, 1, none⟩) (Nat.le_refl _) _).alloc (by simp [World.setCell]; omega) _)
            · rw [show icN (some (a, b)) = a from rfl, show icD (some (a, b)) = b from rfl, show icE (some (a, b)) = 0 from rfl]
              have hRab := (icm_val P (trL S j o k) j (a, b) (fun x hx => by have := ok2.s x hx; omega) ok2.i hic).1
              have HRAB := Lib.hid (show isR a b = true from hRab)
              obtain ⟨-, -, b0, b1, -⟩ := isR_iff.1 hRab
              have HIC := Lib.hid hic
              have n5' := Lib.hid (R2.new w5 a b)
              clear hic hRab
              go_wp2_with fail
              refine (impl_MultiplyRatios_c _ _ _ _ _ HRAB.out half_ok).mono ?_
              rintro e w6 ⟨rfl, b6⟩
              rw [Int.mul_one]
              have hg6 := Lib.hid ((hg5.out.below (below_al w5 _)).below b6)
              have hres6 := Lib.hid ((hres5.out.below (below_al w5 _)).below b6)
              have hbw6 := Lib.hid (below_step (below_step hbw5.out (below_al w5 _) hbw5.out.size) b6 (below_step hbw5.out (below_al w5 _) hbw5.out.size).size)
              have hbx6 := Lib.hid (below_step (below_step hbx5.out (below_al w5 _) hbx5.out.size) b6 (below_step hbx5.out (below_al w5 _) hbx5.out.size).size)
              have lr6 := hres6.out.lt
              have lg6 := hg6.out.lt
              clear b6 hg5 hres5 hbw5 hbx5 n5'
              rcases red_cases a (b * 2) with ⟨he, hq⟩ | ⟨he, hN0, hD0, hq⟩
              · rw [he]
                have hRh : isR (redN a (b * 2)) (redD a (b * 2)) = true := (ratQ_val (by omega) hq).1
                obtain ⟨h, hh⟩ : ∃ h, redN a (b * 2) = h := ⟨_, rfl⟩
                obtain ⟨t, ht⟩ : ∃ t, redD a (b * 2) = t := ⟨_, rfl⟩
                rw [hh, ht] at hRh hq
                rw [hh, ht]
                have HRH := Lib.hid hRh
                have HQH := Lib.hid hq
                obtain ⟨-, -, t0, t1, -⟩ := isR_iff.1 hRh
                obtain ⟨-, -, d0, d1, -⟩ := isR_iff.1 HRK.out
                clear he hq hh ht hRh
                obtain ⟨q0, q1, g2, g3⟩ := hg6.out.cells
                go_wp2_with fail
                refine (impl_SubtractRatios_c _ _ _ _ _ HRK.out HRH.out).mono ?_
                rintro e w7 ⟨rfl, b7⟩
                have hg7 := Lib.hid ((hg6.out.below (below_al w6 _)).below b7)
                have hres7 := Lib.hid ((hres6.out.below (below_al w6 _)).below b7)
                have hbw7 := Lib.hid (below_step (below_step hbw6.out (below_al w6 _) hbw6.out.size) b7 (below_step hbw6.out (below_al w6 _) hbw6.out.size).size)
                have hbx7 := Lib.hid (below_step (below_step hbx6.out (below_al w6 _) hbx6.out.size) b7 (below_step hbx6.out (below_al w6 _) hbx6.out.size).size)
                clear b7 q0 q1 g2 g3 hg6 hres6 hbw6 hbx6
                have HK2 := Lib.hid (show rpK S P j o k (1 + 1) = ratQ (N * t - h * D) (D * t) by
                  rw [rpK1, ← hK.out, HIC.out]
                  show subO (some (N, D)) (ratQ (a * 1) (b * 2)) = _
                  rw [Int.mul_one, HQH.out]
                  rfl)
                obtain ⟨i1, i2, i3⟩ := ic_red (N * t - h * D) (D * t)
                have I1 := Lib.hid i1
                have I2 := Lib.hid i2
                have I3 := Lib.hid i3
                have dt : 0 < D * t := Int.mul_pos (by omega) (by omega)
                have HRV := Lib.hid (fun x (hx : ratQ (N * t - h * D) (D * t) = some x) => (ratQ_val dt hx).1)
                clear i1 i2 i3 dt
                obtain ⟨q0, q1, g2, g3⟩ := hg7.out.cells
                go_wp2_with fail
                go_roundw
                case rel => exact ⟨1 + 1, _, by rw [I3.out], by go_num, by omega, Hid_symm HK2, Lib.hid (fun x hx => HRV.out x hx), by rw [I1.out, I2.out]; exact Lib.hid hg7.out.store, Lib.hid ((hres7.out.far (by show gp ≠ w.heap.size; omega) _).far (by show gp ≠ w.heap.size; omega) _), Lib.hid ((hbw7.out.setCell (p := ⟨gp, 0, none⟩) (by show w.heap.size ≤ gp; omega) _).setCell (p := ⟨gp, 1, none⟩) (by show w.heap.size ≤ gp; omega) _), Lib.hid ((hbx7.out.setCell (p := ⟨gp, 0, none⟩) (by show w3.heap.size ≤ gp; omega) _).setCell (p := ⟨gp, 1, none⟩) (by show w3.heap.size ≤ gp; omega) _)⟩
                case measure => simp [intOf]
              · rw [he]
                have HVN := Lib.hid (rp_none (S := S) (P := P) (p := j) (o := o) (n := k) HC.out (by rw [HR.out]; exact rpK_none (k := 1 + 1) (j := 2) (by omega) (by
                  rw [rpK1, ← hK.out, HIC.out]
                  show subO (some (N, D)) (ratQ (a * 1) (b * 2)) = none
                  rw [Int.mul_one, hq]
                  rfl)))
                clear he hN0 hD0 hq
                obtain ⟨r0, r1, f2, f3⟩ := hres6.out.cells
                go_wp2_with fail
                refine bodyPost_ret (v := .tuple #[.agg #[.int .i64 0, .int .i64 0], .int .i64 3]) (by simp [results, Try.results38, go_sem, r0, r1, lr6]) rfl ?_
                exact RR.mk HVN.out.1.symm HVN.out.2.1.symm HVN.out.2.2.symm (((hbw6.out.setCell (p := ⟨w.heap.size, 0, none⟩) (Nat.le_refl _) _).setCell (p := ⟨w.heap.size, 1, none⟩) (Nat.le_refl _) _).alloc (by simp [World.setCell]; omega) _)
        · rw [show ((2 : Nat) : Int) = 2 from rfl]
          have HVF := Lib.hid (show rpN S P j o k = icN q ∧ rpD S P j o k = icD q ∧ rpE S P j o k = icE q by
            unfold rpN rpD rpE
            rw [if_pos HC.out, if_pos HC.out, if_pos HC.out, HR.out, ← hK.out]
            exact ⟨rfl, rfl, rfl⟩)
          obtain ⟨q0, q1, g2, g3⟩ := hg.out.cells
          obtain ⟨r0, r1, f2, f3⟩ := hres.out.cells
          go_wp2_with fail
          refine bodyPost_ret (v := .tuple #[.agg #[.int .i64 (icN q), .int .i64 (icD q)], .int .i64 (icE q)]) (by simp [results, Try.results38, go_sem, r0, r1]) rfl ?_
          exact RR.mk HVF.out.1.symm HVF.out.2.1.symm HVF.out.2.2.symm ((hbw.out.setCell (p := ⟨w.heap.size, 0, none⟩) (Nat.le_refl _) _).setCell (p := ⟨w.heap.size, 1, none⟩) (Nat.le_refl _) _)
    · subst z1
      have HV := Lib.hid (rp_no (S := S) (P := P) (p := p) (o := o) (n := k) (c := c2) (by unfold rpC; rw [if_pos H1.out, HC1.out, if_pos rfl, HC2.out]) z2)
      have hB : (c2 == 0) = false := by simp [z2]
      go_enter Try.func38, Try.ntmps38
      go_wp2_with fail
      refine (impl_ArePrizes_b _ _ _ S _ _ _ P _ HN.out hm (RI.al hr _) HN'.out hm' (RI.al hr' _)).mono ?_
      rintro e w1 ⟨rfl, b1⟩
      rw [H1.out]
      have BW1 := Lib.hid ((below_al w (.cells #[.int .i64 0, .int .i64 0] 31)).trans (b1.mono (by simp)))
      have res1 := Lib.hid (res0.out.below b1)
      clear b1
      go_wp2_with fail
      refine (impl_TransferChips_c _ _ _ S _ _ _ _ HN.out hm (hr.below BW1.out) hk1 hk0).mono ?_
      rintro e w2 ⟨G1, n1, m1, rfl, hl1, hz1, ho1, b2⟩
      rw [TE1.out]
      have BW2 := Lib.hid (below_step BW1.out b2 BW1.out.size)
      have res2 := Lib.hid (res1.out.below b2)
      clear b2 BW1 res1
      go_wp2_with fail
      refine (impl_TransferChips_c _ _ _ S _ _ _ _ HN.out hm (hr.below BW2.out) hk1 hk0).mono ?_
      rintro e w3 ⟨G2, n2, m2, rfl, hl2, hz2, ho2, b3⟩
      rw [TE2.out]
      have BW3 := Lib.hid (below_step BW2.out b3 BW2.out.size)
      have res3 := Lib.hid (res2.out.below b3)
      clear ho1 ho2 hl1 hl2
      obtain ⟨r0, r1, f2, f3⟩ := res3.out.cells
      go_wp2_with fail
      refine bodyPost_ret (v := .tuple #[.agg #[.int .i64 0, .int .i64 0], .int .i64 c2]) (by simp [results, Try.results38, go_sem, r0, r1]) rfl ?_
      exact RR.mk HV.out.1.symm HV.out.2.1.symm HV.out.2.2.symm ((BW3.out.setCell (p := ⟨w.heap.size, 0, none⟩) (Nat.le_refl _) _).setCell (p := ⟨w.heap.size, 1, none⟩) (Nat.le_refl _) _)
  · have HV := Lib.hid (rp_no (S := S) (P := P) (p := p) (o := o) (n := k) (c := c1) (by unfold rpC; rw [if_pos H1.out, HC1.out, if_neg z1]) z1)
    have hB : (c1 == 0) = false := by simp [z1]
    go_enter Try.func38, Try.ntmps38
    go_wp2_with fail
    refine (impl_ArePrizes_b _ _ _ S _ _ _ P _ HN.out hm (RI.al hr _) HN'.out hm' (RI.al hr' _)).mono ?_
    rintro e w1 ⟨rfl, b1⟩
    rw [H1.out]
    have BW1 := Lib.hid ((below_al w (.cells #[.int .i64 0, .int .i64 0] 31)).trans (b1.mono (by simp)))
    have res1 := Lib.hid (res0.out.below b1)
    clear b1
    go_wp2_with fail
    refine (impl_TransferChips_c _ _ _ S _ _ _ _ HN.out hm (hr.below BW1.out) hk1 hk0).mono ?_
    rintro e w2 ⟨G1, n1, m1, rfl, hl1, hz1, ho1, b2⟩
    rw [TE1.out]
    have BW2 := Lib.hid (below_step BW1.out b2 BW1.out.size)
    have res2 := Lib.hid (res1.out.below b2)
    clear b2 BW1 res1
    clear ho1 hl1
    obtain ⟨r0, r1, f2, f3⟩ := res2.out.cells
    go_wp2_with fail
    refine bodyPost_ret (v := .tuple #[.agg #[.int .i64 0, .int .i64 0], .int .i64 c1]) (by simp [results, Try.results38, go_sem, r0, r1]) rfl ?_
    exact RR.mk HV.out.1.symm HV.out.2.1.symm HV.out.2.2.symm ((BW2.out.setCell (p := ⟨w.heap.size, 0, none⟩) (Nat.le_refl _) _).setCell (p := ⟨w.heap.size, 1, none⟩) (Nat.le_refl _) _)
end Go.Proofs.Ytoibjedpniepbaa
