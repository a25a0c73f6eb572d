/-
  The contracts of ChipValue. Conditions: at most 1048576 elements.
-/
import Derived.Test.YtoibjedpniepbaaIcmTop
import Derived.Test.YtoibjedpniepbaaNeg
namespace Go.Proofs.Ytoibjedpniepbaa
open Go.RowKit
attribute [local go_sem ↓] Go.wp_at_zero Go.wp_at_succ
set_option linter.unusedVariables false
def subO (a b : Option (Int × Int)) : Option (Int × Int) := a.bind fun x => b.bind fun y => ratQ (x.1 * y.2 - y.1 * x.2) (x.2 * y.2)
def cvQ (S P : List Int) (k : Nat) : Option (Int × Int) := subO (mulO (ratQ (S.getD k 0) (sumL S)) (some (sumL P, 1))) (icm P S k)
def cvN (S P : List Int) (i : Int) : Int := if eqB S P i = 0 then icN (cvQ S P i.toNat) else 0
def cvD (S P : List Int) (i : Int) : Int := if eqB S P i = 0 then icD (cvQ S P i.toNat) else 0
def cvE (S P : List Int) (i : Int) : Int := if eqB S P i = 0 then icE (cvQ S P i.toNat) else eqB S P i
theorem cv_join {R F : Option (Int × Int)} {n1 d1 n2 d2 n3 d3 p m : Int} (h1 : ∀ x, R = some x → x = (n1, d1) ∧ isR n1 d1 = true) (h2 : ∀ x, (R.bind fun _ => ratQ (n1 * p) (d1 * 1)) = some x → x = (n2, d2) ∧ isR n2 d2 = true)
    (h3 : ∀ x, ((R.bind fun _ => ratQ (n1 * p) (d1 * 1)).bind fun _ => F) = some x → x = (n3, d3) ∧ isR n3 d3 = true) (hm : isR n3 d3 = true → m = -n3) :
    (((R.bind fun _ => ratQ (n1 * p) (d1 * 1)).bind fun _ => F).bind fun _ => ratQ (n2 * d3 + m * d2) (d2 * d3)) = subO (mulO R (some (p, 1))) F := by
  cases R with
  | none => rfl
  | some r =>
    obtain ⟨rfl, -⟩ := h1 _ rfl
    show (((ratQ (n1 * p) (d1 * 1)).bind fun _ => F).bind fun _ => ratQ (n2 * d3 + m * d2) (d2 * d3)) = subO (ratQ (n1 * p) (d1 * 1)) F
    have h2' : ∀ x, ratQ (n1 * p) (d1 * 1) = some x → x = (n2, d2) ∧ isR n2 d2 = true := h2
    have h3' : ∀ x, ((ratQ (n1 * p) (d1 * 1)).bind fun _ => F) = some x → x = (n3, d3) ∧ isR n3 d3 = true := h3
    clear h2 h3
    cases hq : ratQ (n1 * p) (d1 * 1) with
    | none => rfl
    | some x =>
      obtain ⟨rfl, -⟩ := h2' x hq
      rw [hq] at h3'
      cases F with
      | none => rfl
      | some f =>
        obtain ⟨rfl, hr⟩ := h3' _ rfl
        rw [hm hr]
        show ratQ (n2 * d3 + -n3 * d2) (d2 * d3) = ratQ (n2 * d3 - n3 * d2) (d2 * d3)
        rw [Int.neg_mul]
        rfl
theorem IcOk.psum {S P : List Int} {i : Nat} (h : IcOk S P i) : 0 ≤ sumL P ∧ sumL P ≤ 500000 := by
  have h1 := (sumL_bound (zs := P) (B := 100000) (by omega) (fun x hx => by have := h.p x hx; omega) P.length).2
  rw [List.take_length] at h1
  have h2 := h.l2
  have h3 := h.n
  have h4 : 0 ≤ sumL P := by
    have pos : ∀ l : List Int, (∀ x ∈ l, 0 ≤ x) → 0 ≤ sumL l := by
      intro l
      induction l with
      | nil => intro _; simp [sumL]
      | cons x l ih =>
        intro hx
        have e : sumL (x :: l) = sumL [x] + sumL l := sumL_app [x] l
        have e1 : sumL [x] = x := by simp [sumL]
        have := ih (fun y hy => hx y (by simp [hy]))
        have := hx x (by simp)
        omega
    exact pos P (fun x hx => (h.p x hx).1)
  exact ⟨h4, by omega⟩
theorem IcOk.bigS {S P : List Int} {i : Nat} (h : IcOk S P i) : Hid (∀ x ∈ S, -4000000000 ≤ x ∧ x ≤ 4000000000) := Lib.hid (fun x hx => by have := h.s x hx; omega)
theorem IcOk.bigP {S P : List Int} {i : Nat} (h : IcOk S P i) : Hid (∀ x ∈ P, -4000000000 ≤ x ∧ x ≤ 4000000000) := Lib.hid (fun x hx => by have := h.p x hx; omega)
set_option maxRecDepth 100000 in
set_option maxHeartbeats 4000000 in
theorem spec_ChipValue_c (A : Option Addr) (n c : Nat) (S : List Int) (B : Option Addr) (m d : Nat) (P : List Int) (i : Int) (w : World) (hn : S.length = n) (hm : n ≤ 1048576) (hr : RI w A S) (hn' : P.length = m) (hm' : m ≤ 1048576) (hr' : RI w B P) (hmd : m ≤ d) :
    Calls Try.prog 35 #[.slice A n c, .slice B m d, .int .i64 i] w (RR w (cvN S P i) (cvD S P i) (cvE S P i)) := by
  have HN := Lib.hid hn
  have HN' := Lib.hid hn'
  clear hn hn'
  have res0 := Lib.hid (R2.new w 0 0)
  by_cases h0 : eqB S P i = 0
  · obtain ⟨-, -, k, rfl, hok⟩ := eq_ok h0
    have HV : Hid (cvN S P k = qN (cvQ S P k) ∧ cvD S P k = qD (cvQ S P k) ∧ cvE S P k = cdQ (cvQ S P k)) := Lib.hid (by
      obtain ⟨q1, q2, q3⟩ := q_ic (cvQ S P k)
      refine ⟨?_, ?_, ?_⟩
      · unfold cvN; rw [if_pos h0, q1]; rfl
      · unfold cvD; rw [if_pos h0, q2]; rfl
      · unfold cvE; rw [if_pos h0, q3]; rfl)
    have H0 := Lib.hid h0
    have hS := hok.i
    have hP := hok.l1
    have n5 := hok.n
    obtain ⟨ss0, ss1⟩ := hok.sum
    obtain ⟨sp0, sp1⟩ := hok.psum
    obtain ⟨x, hx⟩ := get_some hS
    obtain ⟨x0, x1⟩ := hok.s x (List.mem_of_getElem? hx)
    have HXD := Lib.hid (show S.getD k 0 = x by simp [List.getD, hx])
    rcases hr.split with h5 | ⟨b, off, rfl, hb, hc⟩
    · omega
    have hcx := hc.out k x hx
    have i1 : (k : Int) < (n : Int) := by have := HN.out; omega
    have i2 : (0 : Int) ≤ (k : Int) := by omega
    clear h0 hx
    go_enter Try.func35, Try.ntmps35
    go_wp2_with fail
    refine (spec_l29Code_c _ _ _ S _ _ _ P _ _ HN.out hm (RI.al hr _) HN'.out hm' (RI.al hr' _)).mono ?_
    rintro e w1 ⟨rfl, b1⟩
    rw [H0.out]
    have BW1 := Lib.hid ((below_al w (.cells #[.int .i64 0, .int .i64 0] 31)).trans (b1.mono (by simp)))
    have res1 := Lib.hid (res0.out.below b1)
    have s1 := BW1.out.size
    have s2 := res1.out.lt
    clear b1
    go_wp2_with fail
    obtain ⟨w2, hw2⟩ : ∃ w2 : World, w2 = (w1.alloc (.cells #[.int .i64 0] 71)) := ⟨_, rfl⟩
    obtain ⟨s, hs⟩ : ∃ s : Nat, s = w1.heap.size := ⟨_, rfl⟩
    rw [← hw2, ← hs]
    have hst2 : Hid (St w2 s (cdQ (some (0, 1)))) := Lib.hid (by rw [hw2, hs]; exact St.new w1 0)
    have BW2 : Hid (Below w.heap.size w w2) := Lib.hid (by rw [hw2]; exact below_step BW1.out (below_al w1 _) s1)
    have res2 : Hid (R2 w2 w.heap.size 0 0) := Lib.hid (by rw [hw2]; exact res1.out.below (below_al w1 _))
    have s3 : s < w2.heap.size := hst2.out.lt
    rw [← hs] at s1 s2
    have hcx2 := (BW2.out.cell (p := ⟨b, off + k, none⟩) hb).trans hcx
    have RS2 := Lib.hid (hr.below BW2.out)
    have RP2 := Lib.hid (hr'.below BW2.out)
    have neS := Lib.hid (hr.ne (s := s) (by omega) (by omega))
    have neP := Lib.hid (hr'.ne (s := s) (by omega) (by omega))
    have nbs : ¬ b = s := by omega
    clear hw2 hs hcx
    have mk : ∀ w' : World, Kept s (s + 1) w2 w' → w'.cell? ⟨b, off + k, none⟩ = some (.int .i64 x) ∧ Kept s (s + 1) w2 w' := fun w' hK =>
      ⟨(hK.cellK (p := ⟨b, off + k, none⟩) (Nat.lt_of_lt_of_le hb BW2.out.size) (by show ¬ (s ≤ b ∧ b < s + 1); omega)).trans hcx2, hK⟩
    have MK := Lib.hid mk
    clear mk
    have HR7 := Lib.hid (R2.new w2 0 0)
    have HPP := Lib.hid (show isR (sumL P) 1 = true from okQ_whole (n := sumL P) (by omega) (by omega))
    go_cut [10] (fun s10 wx => ∃ (gs : Nat) (N D : Int), s10 = .pointer (some ⟨gs, 0, none⟩) ∧ Hid (∃ n1 d1 : Int, (∀ v, ratQ x (sumL S) = some v → v = (n1, d1) ∧ isR n1 d1 = true) ∧ SQ wx s ((ratQ x (sumL S)).bind fun _ => ratQ (n1 * sumL P) (d1 * 1)) N D) ∧ Hid (R2 wx gs N D) ∧ Hid (Kept s (s + 1) w2 wx) ∧ w2.heap.size ≤ gs)
    case first =>
      go_region_held3 (fun w' => w'.cell? ⟨b, off + k, none⟩ = some (.int .i64 x) ∧ Kept s (s + 1) w2 w')
        ((first
          | exact MK.out _ (Kept.refl _ _ _).drew
          | exact MK.out _ ((Kept.refl _ _ _).alloc _).drew
          | exact MK.out _ (Kept.alloc (And.right (by assumption)) _)
          | exact MK.out _ K5
          | exact MK.out _ K4
          | exact MK.out _ K3
          | exact MK.out _ (K5.alloc _)
          | exact MK.out _ (K4.alloc _)
          | exact MK.out _ (K3.alloc _)
          | exact MK.out _ (And.right (by assumption))
          | exact MK.out _ (K5.two (by first | exact Nat.le_refl _ | exact K3.size | exact K4.size | exact K5.size) (by first | exact Nat.le_refl _ | exact K3.size | exact K4.size | exact K5.size))))
        ((first
          | (go_at_call 69; first | ((with_reducible refine (spec_l01Sum_c _ _ _ P _ HN'.out (by omega) (by first | exact RP3.out | exact RP3.out.al _) hok.bigP).mono ?_); rintro e w' ⟨rfl, rfl⟩) | ((with_reducible refine (spec_l01Sum_c _ _ _ S _ HN.out (by omega) (by first | exact RI.drew RS2.out | exact RI.drew (RS2.out.al _)) hok.bigS).mono ?_); rintro e w' ⟨rfl, rfl⟩))
          | (go_at_call 68; refine (spec_l29Ratio_c s (some (0, 1)) _ _ _ (by first | exact hst2.out | exact hst2.out.al) (by omega) (by omega) (by omega) (by omega)).mono ?_; rintro e w3 ⟨n1, d1, rfl, sq1, k1⟩; have K3 : Kept s (s + 1) w2 w3 := (by first | exact Kept.trans (b := w2.drew) (Kept.refl _ _ _).drew k1 | exact Kept.trans (b := (w2.alloc (.cells #[.int .i64 0, .int .i64 0] 31)).drew) ((Kept.refl _ _ _).alloc _).drew k1); have RP3 := Lib.hid (RP2.out.keptS K3 neP.out); (try (have Q1 : R2 w3 w2.heap.size 0 0 := R2.kept (w := (w2.alloc (.cells #[.int .i64 0, .int .i64 0] 31)).drew) (R2.drew HR7.out) k1 (by omega))))
          | (go_at_call 70; refine (spec_l19Whole_c _ _).mono ?_; rintro e w4 ⟨rfl, b2⟩; have K4 : Kept s (s + 1) w2 w4 := (by first | exact Kept.trans K3 (Kept.of_below b2 _ _) | exact Kept.trans (K3.alloc _) (Kept.of_below b2 _ _)); have sq2 : SQ w4 s (ratQ x (sumL S)) n1 d1 := (by first | exact SQ.below sq1 b2 | exact SQ.below sq1.al b2); (try (first | (have Q2 := Q1.below b2) | (have Q2 : R2 w4 w3.heap.size 0 0 := (R2.new w3 0 0).below b2))))
          | (go_at_call 67; refine (spec_l19Times_c s (ratQ x (sumL S)) n1 d1 (sumL P) 1 _ (by first | exact sq2.st | exact sq2.st.al) (fun z hz => ⟨(sq2.v z hz).2, HPP.out⟩)).mono ?_; rintro e w5 ⟨n3, d3, rfl, sq3, k3⟩; have K5 : Kept s (s + 1) w2 w5 := (by first | exact Kept.trans K4 k3 | exact Kept.trans (K4.alloc _) k3); (try (first | (have Q3 := Q2.kept k3 (by have := K3.size; omega); obtain ⟨q0, q1, f0, f1⟩ := Q3.cells) | (have Q3 : R2 w5 w4.heap.size 0 0 := (R2.new w4 0 0).kept k3 (by have := K4.size; omega); obtain ⟨q0, q1, f0, f1⟩ := Q3.cells))))))
      all_goals
        go_wp2_with fail
        go_meet
        first
          | exact ⟨w5.heap.size, n3, d3, rfl, Lib.hid ⟨n1, d1, sq2.v, sq3.al⟩, Lib.hid (R2.new w5 _ _), Lib.hid (K5.alloc _), K5.size⟩
          | exact ⟨w4.heap.size, n3, d3, rfl, Lib.hid ⟨n1, d1, sq2.v, sq3.two (by have := K4.size; show w4.heap.size ≠ s; omega) (by have := K4.size; show w4.heap.size ≠ s; omega)⟩, Lib.hid Q3.store, Lib.hid (K5.two K4.size K4.size), K4.size⟩
          | exact ⟨w3.heap.size, n3, d3, rfl, Lib.hid ⟨n1, d1, sq2.v, sq3.two (by have := K3.size; show w3.heap.size ≠ s; omega) (by have := K3.size; show w3.heap.size ≠ s; omega)⟩, Lib.hid Q3.store, Lib.hid (K5.two K3.size K3.size), K3.size⟩
          | exact ⟨w2.heap.size, n3, d3, rfl, Lib.hid ⟨n1, d1, sq2.v, sq3.two (by show w2.heap.size ≠ s; omega) (by show w2.heap.size ≠ s; omega)⟩, Lib.hid Q3.store, Lib.hid (K5.two (Nat.le_refl _) (Nat.le_refl _)), Nat.le_refl _⟩
    case rest =>
      obtain ⟨gs, N, D, rfl, hq, hgs, hkp, hgl⟩ := hcut
      obtain ⟨w6, rfl⟩ : ∃ w6 : World, w6 = wc := ⟨_, rfl⟩
      obtain ⟨n1, d1, hv1, hsq⟩ := hq.out
      have HV1 := Lib.hid hv1
      have HSQ := Lib.hid hsq
      have BW6 := Lib.hid (BW2.out.trans (hkp.out.below (by omega) BW2.out.size))
      have res6 := Lib.hid (res2.out.kept hkp.out (by omega))
      clear hq hv1 hsq MK hcx2 HR7 RS2 RP2 hst2 BW2 res2
      go_wp2_with fail
      refine (spec_l29Of_c S P _ s k n c m d _ _ _ HN.out HN'.out hok HSQ.out.st (hr.below BW6.out) (hr'.below BW6.out) neS.out neP.out).mono ?_
      rintro e w7 ⟨n4, d4, rfl, sq4, k4⟩
      have SQ4 := Lib.hid sq4
      have hgs7 := Lib.hid (hgs.out.kept k4 (by omega))
      have res7 := Lib.hid (res6.out.kept k4 (by omega))
      have BW7 := Lib.hid (BW6.out.trans (k4.below (by omega) BW6.out.size))
      obtain ⟨q0, q1, f0, f1⟩ := hgs7.out.cells
      have gl7 := hgs7.out.lt
      clear sq4 k4 hgs res6 BW6 hkp
      go_wp2_with fail
      refine (spec_l19Add_c s _ N D _ d4 _ SQ4.out.st.al (fun v hv => ⟨by obtain ⟨y, hy⟩ := bind_some hv; exact (HSQ.out.v y hy).2, by rw [wrap_neg (SQ4.out.v v hv).2]; exact isR_neg (SQ4.out.v v hv).2⟩)).mono ?_
      rintro e w8 ⟨n6, d6, rfl, sq6, k6⟩
      rw [cv_join HV1.out HSQ.out.v SQ4.out.v wrap_neg] at sq6
      have SQ6 : Hid (SQ w8 s (cvQ S P k) n6 d6) := Lib.hid (by unfold cvQ; rw [HXD.out]; exact sq6)
      have res8 := Lib.hid ((res7.out.below (below_al w7 _)).kept k6 (by omega))
      have BW8 := Lib.hid ((below_step BW7.out (below_al w7 _) BW7.out.size).trans (k6.below (by omega) (below_step BW7.out (below_al w7 _) BW7.out.size).size))
      clear sq6 k6 q0 q1 f0 f1 hgs7 res7 BW7
      go_wp2_with fail
      refine (spec_l19Result_c s _ n6 d6 _ SQ6.out).mono ?_
      rintro e w9 ⟨rfl, b9⟩
      have res9 := Lib.hid (res8.out.below b9)
      have BW9 := Lib.hid (below_step BW8.out b9 BW8.out.size)
      obtain ⟨r0, r1, f2, f3⟩ := res9.out.cells
      clear b9
      go_wp2_with fail
      refine bodyPost_ret (v := .tuple #[.agg #[.int .i64 (qN (cvQ S P k)), .int .i64 (qD (cvQ S P k))], .int .i64 (cdQ (cvQ S P k))]) (by simp [results, Try.results35, go_sem, r0, r1]) rfl ?_
      exact RR.mk HV.out.1.symm HV.out.2.1.symm HV.out.2.2.symm ((BW9.out.setCell (p := ⟨w.heap.size, 0, none⟩) (Nat.le_refl _) _).setCell (p := ⟨w.heap.size, 1, none⟩) (Nat.le_refl _) _)
  · have HV : Hid (cvN S P i = 0 ∧ cvD S P i = 0 ∧ cvE S P i = eqB S P i) := Lib.hid ⟨by unfold cvN; rw [if_neg h0], by unfold cvD; rw [if_neg h0], by unfold cvE; rw [if_neg h0]⟩
    obtain ⟨E, hE⟩ : ∃ E, eqB S P i = E := ⟨_, rfl⟩
    rw [hE] at h0 HV
    have HE := Lib.hid hE
    clear hE
    have hB : (E == 0) = false := by simp [h0]
    go_enter Try.func35, Try.ntmps35
    go_wp2_with fail
    refine (spec_l29Code_c _ _ _ S _ _ _ P _ _ HN.out hm (RI.al hr _) HN'.out hm' (RI.al hr' _)).mono ?_
    rintro e w1 ⟨rfl, b1⟩
    rw [HE.out]
    have BW1 := Lib.hid ((below_al w (.cells #[.int .i64 0, .int .i64 0] 31)).trans (b1.mono (by simp)))
    have res1 := Lib.hid (res0.out.below b1)
    obtain ⟨r0, r1, f2, f3⟩ := res1.out.cells
    clear b1
    go_wp2_with fail
    refine bodyPost_ret (v := .tuple #[.agg #[.int .i64 0, .int .i64 0], .int .i64 E]) (by simp [results, Try.results35, go_sem, r0, r1]) rfl ?_
    exact RR.mk HV.out.1.symm HV.out.2.1.symm HV.out.2.2.symm ((BW1.out.setCell (p := ⟨w.heap.size, 0, none⟩) (Nat.le_refl _) _).setCell (p := ⟨w.heap.size, 1, none⟩) (Nat.le_refl _) _)
theorem ic_red (n d : Int) : icN (ratQ n d) = redN n d ∧ icD (ratQ n d) = redD n d ∧ icE (ratQ n d) = redE n d := by
  rcases red_cases n d with ⟨he, hq⟩ | ⟨he, hN, hD, hq⟩
  · rw [hq, he]; exact ⟨rfl, rfl, rfl⟩
  · rw [hq, he, hN, hD]; exact ⟨rfl, rfl, rfl⟩
theorem cv_none {S P : List Int} {i : Int} {k : Nat} (h0 : eqB S P i = 0) (hk : i.toNat = k) (h : cvQ S P k = none) : 0 = cvN S P i ∧ 0 = cvD S P i ∧ 3 = cvE S P i := by
  unfold cvN cvD cvE
  rw [if_pos h0, if_pos h0, if_pos h0, hk, h]
  exact ⟨rfl, rfl, rfl⟩
set_option maxRecDepth 100000 in
set_option maxHeartbeats 4000000 in
theorem impl_ChipValue_c (A : Option Addr) (n c : Nat) (S : List Int) (B : Option Addr) (m d : Nat) (P : List Int) (i : Int) (w : World) (hn : S.length = n) (hm : n ≤ 1048576) (hr : RI w A S) (hn' : P.length = m) (hm' : m ≤ 1048576) (hr' : RI w B P) (hmd : m ≤ d) :
    Calls Try.prog 36 #[.slice A n c, .slice B m d, .int .i64 i] w (RR w (cvN S P i) (cvD S P i) (cvE S P i)) := by
  have HN := Lib.hid hn
  have HN' := Lib.hid hn'
  have res0 := Lib.hid (R2.new w 0 0)
  cases h1 : prizesB S P
  · have HV : Hid (cvN S P i = 0 ∧ cvD S P i = 0 ∧ cvE S P i = 1) := Lib.hid (by simp [cvN, cvD, cvE, eqB, h1])
    clear hn hn'
    go_enter Try.func36, Try.ntmps36
    go_wp2_with fail
    refine (impl_ArePrizes_b _ _ _ S _ _ _ P _ HN.out hm (RI.al hr _) HN'.out hm' (RI.al hr' _)).mono ?_
    rintro e w1 ⟨rfl, b1⟩
    rw [h1]
    have BW1 := Lib.hid ((below_al w (.cells #[.int .i64 0, .int .i64 0] 31)).trans (b1.mono (by simp)))
    have res1 := Lib.hid (res0.out.below b1)
    obtain ⟨r0, r1, f2, f3⟩ := res1.out.cells
    clear b1 h1
    go_wp2_with fail
    refine bodyPost_ret (v := .tuple #[.agg #[.int .i64 0, .int .i64 0], .int .i64 1]) (by simp [results, Try.results36, go_sem, r0, r1]) rfl ?_
    exact RR.mk HV.out.1.symm HV.out.2.1.symm HV.out.2.2.symm ((BW1.out.setCell (p := ⟨w.heap.size, 0, none⟩) (Nat.le_refl _) _).setCell (p := ⟨w.heap.size, 1, none⟩) (Nat.le_refl _) _)
  · cases h2 : inB i 0 ((n : Int) - 1)
    · have HV : Hid (cvN S P i = 0 ∧ cvD S P i = 0 ∧ cvE S P i = 2) := Lib.hid (by simp [cvN, cvD, cvE, eqB, h1, hn, h2])
      clear hn hn'
      go_enter Try.func36, Try.ntmps36
      go_wp2_with fail
      refine (impl_ArePrizes_b _ _ _ S _ _ _ P _ HN.out hm (RI.al hr _) HN'.out hm' (RI.al hr' _)).mono ?_
      rintro e w1 ⟨rfl, b1⟩
      rw [h1]
      have BW1 := Lib.hid ((below_al w (.cells #[.int .i64 0, .int .i64 0] 31)).trans (b1.mono (by simp)))
      have res1 := Lib.hid (res0.out.below b1)
      obtain ⟨r0, r1, f2, f3⟩ := res1.out.cells
      clear b1 h1
      go_wp2_with (go_at_call 58; refine (impl_isPlayer_c _ _ _ _ _ hm).mono ?_; rintro e w' ⟨rfl, rfl⟩)
      refine bodyPost_ret (v := .tuple #[.agg #[.int .i64 0, .int .i64 0], .int .i64 2]) (by simp [results, Try.results36, go_sem, r0, r1]) rfl ?_
      exact RR.mk HV.out.1.symm HV.out.2.1.symm HV.out.2.2.symm ((BW1.out.setCell (p := ⟨w.heap.size, 0, none⟩) (Nat.le_refl _) _).setCell (p := ⟨w.heap.size, 1, none⟩) (Nat.le_refl _) _)
    · have h0 : eqB S P i = 0 := by simp [eqB, h1, hn, h2]
      obtain ⟨-, -, k, rfl, hok⟩ := eq_ok h0
      have H0 := Lib.hid h0
      have hS := hok.i
      have hP := hok.l1
      have n5 := hok.n
      obtain ⟨ss0, ss1⟩ := hok.sum
      obtain ⟨sp0, sp1⟩ := hok.psum
      obtain ⟨x, hx⟩ := get_some hS
      obtain ⟨x0, x1⟩ := hok.s x (List.mem_of_getElem? hx)
      have HXD := Lib.hid (show S.getD k 0 = x by simp [List.getD, hx])
      have HCV := Lib.hid (show cvQ S P k = subO (mulO (ratQ x (sumL S)) (some (sumL P, 1))) (icm P S k) by unfold cvQ; rw [HXD.out])
      have HPP := Lib.hid (show isR (sumL P) 1 = true from okQ_whole (n := sumL P) (by omega) (by omega))
      rcases hr.split with h5 | ⟨b, off, rfl, hb, hc⟩
      · omega
      have hcx := hc.out k x hx
      have i1 : (k : Int) < (n : Int) := by omega
      have i2 : (0 : Int) ≤ (k : Int) := by omega
      clear hn hn' h0 hx
      go_enter Try.func36, Try.ntmps36
      go_wp2_with fail
      refine (impl_ArePrizes_b _ _ _ S _ _ _ P _ HN.out hm (RI.al hr _) HN'.out hm' (RI.al hr' _)).mono ?_
      rintro e w1 ⟨rfl, b1⟩
      rw [h1]
      have BW1 := Lib.hid ((below_al w (.cells #[.int .i64 0, .int .i64 0] 31)).trans (b1.mono (by simp)))
      have res1 := Lib.hid (res0.out.below b1)
      have hcx1 := (BW1.out.cell (p := ⟨b, off + k, none⟩) hb).trans hcx
      have RS1 := Lib.hid (hr.below BW1.out)
      have bw1 : b < w1.heap.size := Nat.lt_of_lt_of_le hb BW1.out.size
      have HR1 := Lib.hid (R2.new w1 0 0)
      have lw1 := res1.out.lt
      clear b1 h1 hcx
      go_upto_region 5 with (go_at_call 58; refine (impl_isPlayer_c _ _ _ _ _ hm).mono ?_; rintro e w' ⟨rfl, rfl⟩)
      go_cut [8, 9] (fun s8 s9 wx => ∃ gs : Nat, s8 = .pointer (some ⟨gs, 0, none⟩) ∧ s9 = .int .i64 (redE x (sumL S)) ∧ Hid (R2 wx gs (redN x (sumL S)) (redD x (sumL S))) ∧ Hid (Below w1.heap.size w1 wx) ∧ w1.heap.size ≤ gs)
      case first =>
        have mk : ∀ w' : World, Below w1.heap.size w1 w' → w'.cell? ⟨b, off + k, none⟩ = some (.int .i64 x) ∧ Below w1.heap.size w1 w' := fun w' hB => ⟨(hB.cell (p := ⟨b, off + k, none⟩) bw1).trans hcx1, hB⟩
        have MK := Lib.hid mk
        clear mk
        go_wp2_with fail
        go_region_held3 (fun w' => w'.cell? ⟨b, off + k, none⟩ = some (.int .i64 x) ∧ Below w1.heap.size w1 w')
          ((first
            | exact MK.out _ (Below.refl _ _).drew
            | exact MK.out _ (bel_al (Below.refl _ _) _).drew
            | exact MK.out _ (bel_al (And.right (by assumption)) _)
            | exact MK.out _ B2
            | exact MK.out _ (bel_al B2 _)
            | exact MK.out _ (And.right (by assumption))
            | exact MK.out _ (bel_two B2 (by first | exact Nat.le_refl _ | exact B2.size) (by first | exact Nat.le_refl _ | exact B2.size))))
          ((first
            | (go_at_call 73; (with_reducible refine (impl_sumOf_c _ _ _ S _ HN.out (by omega) (by first | exact RI.drew RS1.out | exact RI.drew (RS1.out.al _)) hok.bigS).mono ?_); rintro e w' ⟨rfl, rfl⟩)
            | (go_at_call 72; refine (impl_reduced_c _ _ _ (by omega) (by omega) (by omega) (by omega)).mono ?_; rintro e w2 ⟨rfl, b2⟩; have B2 : Below w1.heap.size w1 w2 := (by first | exact bel_st (w := w1.drew) (Below.refl _ _).drew b2 | exact bel_st (w := (w1.alloc (.cells #[.int .i64 0, .int .i64 0] 31)).drew) (bel_al (Below.refl _ _) _).drew b2); (try (have Q2 : R2 w2 w1.heap.size 0 0 := R2.below (w := (w1.alloc (.cells #[.int .i64 0, .int .i64 0] 31)).drew) (R2.drew HR1.out) b2; obtain ⟨q0, q1, f0, f1⟩ := Q2.cells)))))
        all_goals
          go_wp2_with fail
          go_meet
          first
            | exact ⟨w2.heap.size, rfl, rfl, Lib.hid (R2.new w2 _ _), Lib.hid (bel_al B2 _), B2.size⟩
            | exact ⟨w1.heap.size, rfl, rfl, Lib.hid Q2.store, Lib.hid (bel_two B2 (Nat.le_refl _) (Nat.le_refl _)), Nat.le_refl _⟩
      case rest =>
        obtain ⟨gs, rfl, rfl, hgs, hbw, hgl⟩ := hcut
        obtain ⟨w3, rfl⟩ : ∃ w3 : World, w3 = wc := ⟨_, rfl⟩
        have BW3 := Lib.hid (below_step BW1.out hbw.out BW1.out.size)
        have res3 := Lib.hid (res1.out.below hbw.out)
        clear hbw hcx1 RS1 HR1
        rcases red_cases x (sumL S) with ⟨he, hq⟩ | ⟨he, hN0, hD0, hq⟩
        · rw [he]
          have hR : isR (redN x (sumL S)) (redD x (sumL S)) = true := (ratQ_val (by omega) hq).1
          obtain ⟨a, ha⟩ : ∃ a, redN x (sumL S) = a := ⟨_, rfl⟩
          obtain ⟨bb, hbb⟩ : ∃ bb, redD x (sumL S) = bb := ⟨_, rfl⟩
          rw [ha, hbb] at hR hq hgs
          have HRR := Lib.hid hR
          have HQ1 := Lib.hid hq
          obtain ⟨ra0, ra1, rb0, rb1, -⟩ := isR_iff.1 hR
          clear hR hq ha hbb he
          have HR3 := Lib.hid (R2.new w3 0 0)
          obtain ⟨k0, k1, -, -⟩ := hgs.out.cells
          have gl3 := hgs.out.lt
          have RP3 := Lib.hid (hr'.below BW3.out)
          have lw3 := res3.out.lt
          go_upto_region 8 with (fail)
          go_cut [10, 9] (fun s10 s9 wx => ∃ gm : Nat, s10 = .pointer (some ⟨gm, 0, none⟩) ∧ s9 = .int .i64 (redE (a * sumL P) bb) ∧ Hid (R2 wx gm (redN (a * sumL P) bb) (redD (a * sumL P) bb)) ∧ Hid (Below w3.heap.size w3 wx) ∧ w3.heap.size ≤ gm)
          case first =>
            have mk : ∀ w' : World, Below w3.heap.size w3 w' → w'.cell? ⟨gs, 0, none⟩ = some (.int .i64 a) ∧ w'.cell? ⟨gs, 1, none⟩ = some (.int .i64 bb) ∧ Below w3.heap.size w3 w' := fun w' hB => ⟨(hB.cell (p := ⟨gs, 0, none⟩) gl3).trans k0, (hB.cell (p := ⟨gs, 1, none⟩) gl3).trans k1, hB⟩
            have MK := Lib.hid mk
            clear mk
            go_wp2_with fail
            go_region_held3 (fun w' => w'.cell? ⟨gs, 0, none⟩ = some (.int .i64 a) ∧ w'.cell? ⟨gs, 1, none⟩ = some (.int .i64 bb) ∧ Below w3.heap.size w3 w')
              ((first
                | exact MK.out _ (Below.refl _ _).drew
                | exact MK.out _ (bel_al (Below.refl _ _) _).drew
                | exact MK.out _ (bel_al (And.right (And.right (by assumption))) _)
                | exact MK.out _ B2
                | exact MK.out _ (bel_al B2 _)
                | exact MK.out _ (And.right (And.right (by assumption)))
                | exact MK.out _ (bel_two B2 (by first | exact Nat.le_refl _ | exact B2.size) (by first | exact Nat.le_refl _ | exact B2.size))))
              ((first
                | (go_at_call 73; (with_reducible refine (impl_sumOf_c _ _ _ P _ HN'.out (by omega) (by first | exact RI.drew RP3.out | exact RI.drew (RP3.out.al _)) hok.bigP).mono ?_); rintro e w' ⟨rfl, rfl⟩)
                | (go_at_call 74; refine (impl_MultiplyRatios_c _ _ _ _ _ HRR.out HPP.out).mono ?_; rintro e w2 ⟨rfl, b2⟩; have B2 : Below w3.heap.size w3 w2 := (by first | exact bel_st (w := w3.drew) (Below.refl _ _).drew b2 | exact bel_st (w := (w3.alloc (.cells #[.int .i64 0, .int .i64 0] 31)).drew) (bel_al (Below.refl _ _) _).drew b2); (try (have Q2 : R2 w2 w3.heap.size 0 0 := R2.below (w := (w3.alloc (.cells #[.int .i64 0, .int .i64 0] 31)).drew) (R2.drew HR3.out) b2; obtain ⟨q0, q1, f0, f1⟩ := Q2.cells)))))
            all_goals
              go_wp2_with fail
              go_meet
              first
                | exact ⟨w2.heap.size, rfl, rfl, Lib.hid (R2.new w2 _ _), Lib.hid (bel_al B2 _), B2.size⟩
                | exact ⟨w3.heap.size, rfl, rfl, Lib.hid Q2.store, Lib.hid (bel_two B2 (Nat.le_refl _) (Nat.le_refl _)), Nat.le_refl _⟩
          case rest =>
            obtain ⟨gm, rfl, rfl, hgm, hbw, hgml⟩ := hcut
            obtain ⟨w4, rfl⟩ : ∃ w4 : World, w4 = wc := ⟨_, rfl⟩
            have BW4 := Lib.hid (below_step BW3.out hbw.out BW3.out.size)
            have res4 := Lib.hid (res3.out.below hbw.out)
            clear hbw HR3 k0 k1 hgs RP3
            rcases red_cases (a * sumL P) bb with ⟨he, hq⟩ | ⟨he, hN0, hD0, hq⟩
            · rw [he]
              have hR : isR (redN (a * sumL P) bb) (redD (a * sumL P) bb) = true := (ratQ_val (by omega) hq).1
              obtain ⟨m1, hm1⟩ : ∃ m1, redN (a * sumL P) bb = m1 := ⟨_, rfl⟩
              obtain ⟨m2, hm2⟩ : ∃ m2, redD (a * sumL P) bb = m2 := ⟨_, rfl⟩
              rw [hm1, hm2] at hR hq hgm
              have HRM := Lib.hid hR
              have HQ2 := Lib.hid hq
              obtain ⟨rm0, rm1, rn0, rn1, -⟩ := isR_iff.1 hR
              clear hR hq hm1 hm2 he
              have HX2 := Lib.hid (show cvQ S P k = subO (some (m1, m2)) (icm P S k) by
                rw [HCV.out, HQ1.out]
                show subO (ratQ (a * sumL P) (bb * 1)) _ = _
                rw [Int.mul_one]
                rw [HQ2.out])
              go_wp2_with fail
              refine (impl_equityIn_c S P k n c m d _ _ _ HN.out HN'.out hmd hok (hr.below BW4.out) (hr'.below BW4.out)).mono ?_
              rintro e w5 ⟨rfl, b5⟩
              have hgm5 := Lib.hid (hgm.out.below b5)
              have res5 := Lib.hid (res4.out.below b5)
              have BW5 := Lib.hid (below_step BW4.out b5 BW4.out.size)
              have lw5 := res5.out.lt
              clear b5 hgm res4 BW4
              rcases hic : icm P S k with _ | ⟨n4, d4⟩
              · have HNO := Lib.hid (cv_none (k := k) H0.out (by omega) (by rw [HX2.out, hic]; rfl))
                rw [show icN none = 0 from rfl, show icD none = 0 from rfl, show icE none = 3 from rfl]
                clear hic
                obtain ⟨r0, r1, f2, f3⟩ := res5.out.cells
                go_wp2_with fail
                refine bodyPost_ret (v := .tuple #[.agg #[.int .i64 0, .int .i64 0], .int .i64 3]) (by simp [results, Try.results36, go_sem, r0, r1, lw5]) rfl ?_
                exact RR.mk HNO.out.1 HNO.out.2.1 HNO.out.2.2 (((BW5.out.setCell (p := ⟨w.heap.size, 0, none⟩) (Nat.le_refl _) _).setCell (p := ⟨w.heap.size, 1, none⟩) (Nat.le_refl _) _).alloc (by simp [World.setCell]; omega) _)
              · have HRE := Lib.hid (icm_val P S k (n4, d4) (fun x hx => by have := hok.s x hx; omega) hok.i hic).1
                have HFV : Hid (redN (m1 * d4 - n4 * m2) (m2 * d4) = cvN S P k ∧ redD (m1 * d4 - n4 * m2) (m2 * d4) = cvD S P k ∧ redE (m1 * d4 - n4 * m2) (m2 * d4) = cvE S P k) := Lib.hid (by
                  have e : cvQ S P k = ratQ (m1 * d4 - n4 * m2) (m2 * d4) := by rw [HX2.out, hic]; rfl
                  obtain ⟨i1, i2, i3⟩ := ic_red (m1 * d4 - n4 * m2) (m2 * d4)
                  rw [← i1, ← i2, ← i3, ← e]
                  unfold cvN cvD cvE
                  rw [if_pos H0.out, if_pos H0.out, if_pos H0.out]
                  exact ⟨rfl, rfl, rfl⟩)
                rw [show icN (some (n4, d4)) = n4 from rfl, show icD (some (n4, d4)) = d4 from rfl, show icE (some (n4, d4)) = 0 from rfl]
                clear hic
                obtain ⟨k0, k1, -, -⟩ := hgm5.out.cells
                have gl5 := hgm5.out.lt
                go_wp2_with fail
                refine (impl_SubtractRatios_c _ _ _ _ _ HRM.out HRE.out).mono ?_
                rintro e w6 ⟨rfl, b6⟩
                have res6 := Lib.hid ((res5.out.below (below_al w5 _)).below b6)
                have BW6 := Lib.hid (below_step (below_step BW5.out (below_al w5 _) BW5.out.size) b6 (below_step BW5.out (below_al w5 _) BW5.out.size).size)
                obtain ⟨r0, r1, f2, f3⟩ := res6.out.cells
                clear b6 k0 k1
                go_wp2_with fail
                refine bodyPost_ret (v := .tuple #[.agg #[.int .i64 (redN (m1 * d4 - n4 * m2) (m2 * d4)), .int .i64 (redD (m1 * d4 - n4 * m2) (m2 * d4))], .int .i64 (redE (m1 * d4 - n4 * m2) (m2 * d4))]) (by simp [results, Try.results36, go_sem, r0, r1]) rfl ?_
                exact RR.mk HFV.out.1 HFV.out.2.1 HFV.out.2.2 ((BW6.out.setCell (p := ⟨w.heap.size, 0, none⟩) (Nat.le_refl _) _).setCell (p := ⟨w.heap.size, 1, none⟩) (Nat.le_refl _) _)
            · rw [he]
              have HNO := Lib.hid (cv_none (k := k) H0.out (by omega) (by
                rw [HCV.out, HQ1.out]
                show subO (ratQ (a * sumL P) (bb * 1)) _ = _
                rw [Int.mul_one]
                rw [hq]; rfl))
              clear he hN0 hD0 hq
              obtain ⟨r0, r1, f2, f3⟩ := res4.out.cells
              go_wp2_with fail
              refine bodyPost_ret (v := .tuple #[.agg #[.int .i64 0, .int .i64 0], .int .i64 3]) (by simp [results, Try.results36, go_sem, r0, r1]) rfl ?_
              exact RR.mk HNO.out.1 HNO.out.2.1 HNO.out.2.2 ((BW4.out.setCell (p := ⟨w.heap.size, 0, none⟩) (Nat.le_refl _) _).setCell (p := ⟨w.heap.size, 1, none⟩) (Nat.le_refl _) _)
        · rw [he]
          have HNO := Lib.hid (cv_none (k := k) H0.out (by omega) (by rw [HCV.out, hq]; rfl))
          clear he hN0 hD0 hq
          obtain ⟨r0, r1, f2, f3⟩ := res3.out.cells
          go_wp2_with fail
          refine bodyPost_ret (v := .tuple #[.agg #[.int .i64 0, .int .i64 0], .int .i64 3]) (by simp [results, Try.results36, go_sem, r0, r1]) rfl ?_
          exact RR.mk HNO.out.1 HNO.out.2.1 HNO.out.2.2 ((BW3.out.setCell (p := ⟨w.heap.size, 0, none⟩) (Nat.le_refl _) _).setCell (p := ⟨w.heap.size, 1, none⟩) (Nat.le_refl _) _)
end Go.Proofs.Ytoibjedpniepbaa
