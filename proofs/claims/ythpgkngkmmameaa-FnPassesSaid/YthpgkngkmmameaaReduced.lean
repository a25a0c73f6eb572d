/-
  The contracts of reduced and l01Ratio. Conditions: the denominator is positive; both numbers are at most 4000000000000000000 in size.
-/
import Derived.Test.YthpgkngkmmameaaRatio
namespace Go.Proofs.Ythpgkngkmmameaa
open Go.RowKit
set_option linter.unusedVariables false
theorem bcell {W w1 : World} (hb : Below W.heap.size W w1) : (∀ b o, b < W.heap.size → w1.cell? ⟨b, o, none⟩ = W.cell? ⟨b, o, none⟩) ∧ (∀ b o, b < W.heap.size → w1.frozen? ⟨b, o, none⟩ = W.frozen? ⟨b, o, none⟩) :=
  ⟨fun b o h => hb.cell (p := ⟨b, o, none⟩) h, fun b o h => hb.frozen (p := ⟨b, o, none⟩) h⟩
theorem impl_reduced_c (num den : Int) (w : World) (hn0 : -4000000000000000000 ≤ num) (hn1 : num ≤ 4000000000000000000) (hd0 : 1 ≤ den) (hd1 : den ≤ 4000000000000000000) :
    Calls Try.prog 158 #[.int .i64 num, .int .i64 den] w (RR w (redN num den) (redD num den) (redE num den)) := by
  have c1 := absI_nonneg num
  have c2 : absI num ≤ 4000000000000000000 := absI_le hn0 hn1
  have g1 : 1 ≤ gcdI (absI num) den := gcd_pos (by omega)
  have g2 : gcdI (absI num) den ≤ den := gcd_le (by omega)
  cases hx : isR (num.tdiv (gcdI (absI num) den)) (den / gcdI (absI num) den)
  · have HN := Lib.hid (show redN num den = 0 by unfold redN; rw [if_neg (by unfold redP redQ; rw [hx]; simp)])
    have HD := Lib.hid (show redD num den = 0 by unfold redD; rw [if_neg (by unfold redP redQ; rw [hx]; simp)])
    have HE := Lib.hid (show redE num den = 3 by unfold redE; rw [if_neg (by unfold redP redQ; rw [hx]; simp)])
    go_enter Try.func158, Try.ntmps158
    go_wp2_with (first
    | (go_at_call 164; refine (impl_absOf_c _ _ (by omega)).mono ?_; rintro e w' ⟨rfl, rfl⟩)
    | (go_at_call 163; refine (impl_divisorOf_c _ _ _ (by omega) (by omega) (by omega) (by omega)).mono ?_; rintro e w' ⟨rfl, q, rfl⟩))
    go_region
    go_wp2_with fail
    refine (impl_IsRatio_c _ _ _).mono ?_
    rintro e w1 ⟨rfl, hb1⟩
    obtain ⟨hc, hf⟩ := bcell hb1
    have hs := hb1.size
    have hs' : w.heap.size + 1 < w1.heap.size := by simp at hs; omega
    have HB := Lib.hid hb1
    have q0 : w1.cell? ⟨w.heap.size, 0, none⟩ = some (.int .i64 0) := by rw [hc _ _ (by simp; omega)]; simp [go_sem]
    have q1 : w1.cell? ⟨w.heap.size, 1, none⟩ = some (.int .i64 0) := by rw [hc _ _ (by simp; omega)]; simp [go_sem]
    have q2 : w1.cell? ⟨w.heap.size + 1, 0, none⟩ = some (.int .i64 (num.tdiv (gcdI (absI num) den))) := by rw [hc _ _ (by simp)]; simp [go_sem]
    have q3 : w1.cell? ⟨w.heap.size + 1, 1, none⟩ = some (.int .i64 (den / gcdI (absI num) den)) := by rw [hc _ _ (by simp)]; simp [go_sem]
    have f0 : w1.frozen? ⟨w.heap.size, 0, none⟩ = false := by rw [hf _ _ (by simp; omega)]; simp [go_sem]
    have f1 : w1.frozen? ⟨w.heap.size, 1, none⟩ = false := by rw [hf _ _ (by simp; omega)]; simp [go_sem]
    clear hb1 hc hf hs
    go_wp2_with fail
    refine bodyPost_ret (v := .tuple #[.agg #[.int .i64 0, .int .i64 0], .int .i64 3]) (by simp [results, Try.results158, go_sem, q0, q1]) rfl ?_
    rw [HN.out, HD.out, HE.out]
    have hb := HB.out
    refine RR.mk rfl rfl rfl ?_
    exact (((below_step (B := w.heap.size) (by first | exact (below_drewN ((Below.refl _ _).alloc (Nat.le_refl _) _) _).alloc (by simp) _ | exact (((Below.refl _ _).alloc (Nat.le_refl _) _).drew).alloc (by simp) _) hb (by simp; omega)).setCell (Nat.le_refl _) _).setCell (Nat.le_refl _) _)
  · have HN := Lib.hid (show redN num den = num.tdiv (gcdI (absI num) den) by unfold redN; rw [if_pos (by unfold redP redQ; exact hx)]; rfl)
    have HD := Lib.hid (show redD num den = den / gcdI (absI num) den by unfold redD; rw [if_pos (by unfold redP redQ; exact hx)]; rfl)
    have HE := Lib.hid (show redE num den = 0 by unfold redE; rw [if_pos (by unfold redP redQ; exact hx)])
    go_enter Try.func158, Try.ntmps158
    go_wp2_with (first
    | (go_at_call 164; refine (impl_absOf_c _ _ (by omega)).mono ?_; rintro e w' ⟨rfl, rfl⟩)
    | (go_at_call 163; refine (impl_divisorOf_c _ _ _ (by omega) (by omega) (by omega) (by omega)).mono ?_; rintro e w' ⟨rfl, q, rfl⟩))
    go_region
    go_wp2_with fail
    refine (impl_IsRatio_c _ _ _).mono ?_
    rintro e w1 ⟨rfl, hb1⟩
    obtain ⟨hc, hf⟩ := bcell hb1
    have hs := hb1.size
    have hs' : w.heap.size + 1 < w1.heap.size := by simp at hs; omega
    have HB := Lib.hid hb1
    have q0 : w1.cell? ⟨w.heap.size, 0, none⟩ = some (.int .i64 0) := by rw [hc _ _ (by simp; omega)]; simp [go_sem]
    have q1 : w1.cell? ⟨w.heap.size, 1, none⟩ = some (.int .i64 0) := by rw [hc _ _ (by simp; omega)]; simp [go_sem]
    have q2 : w1.cell? ⟨w.heap.size + 1, 0, none⟩ = some (.int .i64 (num.tdiv (gcdI (absI num) den))) := by rw [hc _ _ (by simp)]; simp [go_sem]
    have q3 : w1.cell? ⟨w.heap.size + 1, 1, none⟩ = some (.int .i64 (den / gcdI (absI num) den)) := by rw [hc _ _ (by simp)]; simp [go_sem]
    have f0 : w1.frozen? ⟨w.heap.size, 0, none⟩ = false := by rw [hf _ _ (by simp; omega)]; simp [go_sem]
    have f1 : w1.frozen? ⟨w.heap.size, 1, none⟩ = false := by rw [hf _ _ (by simp; omega)]; simp [go_sem]
    clear hb1 hc hf hs
    go_wp2_with fail
    refine bodyPost_ret (v := .tuple #[.agg #[.int .i64 (num.tdiv (gcdI (absI num) den)), .int .i64 (den / gcdI (absI num) den)], .int .i64 0]) (by simp [results, Try.results158, go_sem, q0, q1]) rfl ?_
    rw [HN.out, HD.out, HE.out]
    have hb := HB.out
    refine RR.mk rfl rfl rfl ?_
    exact (((below_step (B := w.heap.size) (by first | exact (below_drewN ((Below.refl _ _).alloc (Nat.le_refl _) _) _).alloc (by simp) _ | exact (((Below.refl _ _).alloc (Nat.le_refl _) _).drew).alloc (by simp) _) hb (by simp; omega)).setCell (Nat.le_refl _) _).setCell (Nat.le_refl _) _)
theorem spec_l01Ratio_c (num den : Int) (w : World) (hn0 : -4000000000000000000 ≤ num) (hn1 : num ≤ 4000000000000000000) (hd0 : 1 ≤ den) (hd1 : den ≤ 4000000000000000000) :
    Calls Try.prog 190 #[.int .i64 num, .int .i64 den] w (RR w (redN num den) (redD num den) (redE num den)) := by
  have c1 := absI_nonneg num
  have c2 : absI num ≤ 4000000000000000000 := absI_le hn0 hn1
  have g1 : 1 ≤ gcdI (absI num) den := gcd_pos (by omega)
  have g2 : gcdI (absI num) den ≤ den := gcd_le (by omega)
  cases hx : isR (num.tdiv (gcdI (absI num) den)) (den / gcdI (absI num) den)
  · have HN := Lib.hid (show redN num den = 0 by unfold redN; rw [if_neg (by unfold redP redQ; rw [hx]; simp)])
    have HD := Lib.hid (show redD num den = 0 by unfold redD; rw [if_neg (by unfold redP redQ; rw [hx]; simp)])
    have HE := Lib.hid (show redE num den = 3 by unfold redE; rw [if_neg (by unfold redP redQ; rw [hx]; simp)])
    go_enter Try.func190, Try.ntmps190
    go_wp2_with (first
    | (go_at_call 194; refine (spec_l01Abs_c _ _ (by omega) (by omega)).mono ?_; rintro e w' ⟨rfl, rfl⟩)
    | (go_at_call 193; refine (spec_l01Gcd_c _ _ _ _ (Nat.le_refl _) (by omega) (by omega) (by omega) (by omega)).mono ?_; rintro e w' ⟨rfl, rfl⟩))
    go_region
    go_wp2_with fail
    refine (spec_IsRatio_c _ _ _).mono ?_
    rintro e w1 ⟨rfl, hb1⟩
    obtain ⟨hc, hf⟩ := bcell hb1
    have hs := hb1.size
    have hs' : w.heap.size + 1 < w1.heap.size := by simp at hs; omega
    have HB := Lib.hid hb1
    have q0 : w1.cell? ⟨w.heap.size, 0, none⟩ = some (.int .i64 0) := by rw [hc _ _ (by simp; omega)]; simp [go_sem]
    have q1 : w1.cell? ⟨w.heap.size, 1, none⟩ = some (.int .i64 0) := by rw [hc _ _ (by simp; omega)]; simp [go_sem]
    have q2 : w1.cell? ⟨w.heap.size + 1, 0, none⟩ = some (.int .i64 (num.tdiv (gcdI (absI num) den))) := by rw [hc _ _ (by simp)]; simp [go_sem]
    have q3 : w1.cell? ⟨w.heap.size + 1, 1, none⟩ = some (.int .i64 (den / gcdI (absI num) den)) := by rw [hc _ _ (by simp)]; simp [go_sem]
    have f0 : w1.frozen? ⟨w.heap.size, 0, none⟩ = false := by rw [hf _ _ (by simp; omega)]; simp [go_sem]
    have f1 : w1.frozen? ⟨w.heap.size, 1, none⟩ = false := by rw [hf _ _ (by simp; omega)]; simp [go_sem]
    clear hb1 hc hf hs
    go_wp2_with fail
    refine bodyPost_ret (v := .tuple #[.agg #[.int .i64 0, .int .i64 0], .int .i64 3]) (by simp [results, Try.results190, go_sem, q0, q1]) rfl ?_
    rw [HN.out, HD.out, HE.out]
    have hb := HB.out
    refine RR.mk rfl rfl rfl ?_
    exact (((below_step (B := w.heap.size) (by first | exact (below_drewN ((Below.refl _ _).alloc (Nat.le_refl _) _) _).alloc (by simp) _ | exact (((Below.refl _ _).alloc (Nat.le_refl _) _).drew).alloc (by simp) _) hb (by simp; omega)).setCell (Nat.le_refl _) _).setCell (Nat.le_refl _) _)
  · have HN := Lib.hid (show redN num den = num.tdiv (gcdI (absI num) den) by unfold redN; rw [if_pos (by unfold redP redQ; exact hx)]; rfl)
    have HD := Lib.hid (show redD num den = den / gcdI (absI num) den by unfold redD; rw [if_pos (by unfold redP redQ; exact hx)]; rfl)
    have HE := Lib.hid (show redE num den = 0 by unfold redE; rw [if_pos (by unfold redP redQ; exact hx)])
    go_enter Try.func190, Try.ntmps190
    go_wp2_with (first
    | (go_at_call 194; refine (spec_l01Abs_c _ _ (by omega) (by omega)).mono ?_; rintro e w' ⟨rfl, rfl⟩)
    | (go_at_call 193; refine (spec_l01Gcd_c _ _ _ _ (Nat.le_refl _) (by omega) (by omega) (by omega) (by omega)).mono ?_; rintro e w' ⟨rfl, rfl⟩))
    go_region
    go_wp2_with fail
    refine (spec_IsRatio_c _ _ _).mono ?_
    rintro e w1 ⟨rfl, hb1⟩
    obtain ⟨hc, hf⟩ := bcell hb1
    have hs := hb1.size
    have hs' : w.heap.size + 1 < w1.heap.size := by simp at hs; omega
    have HB := Lib.hid hb1
    have q0 : w1.cell? ⟨w.heap.size, 0, none⟩ = some (.int .i64 0) := by rw [hc _ _ (by simp; omega)]; simp [go_sem]
    have q1 : w1.cell? ⟨w.heap.size, 1, none⟩ = some (.int .i64 0) := by rw [hc _ _ (by simp; omega)]; simp [go_sem]
    have q2 : w1.cell? ⟨w.heap.size + 1, 0, none⟩ = some (.int .i64 (num.tdiv (gcdI (absI num) den))) := by rw [hc _ _ (by simp)]; simp [go_sem]
    have q3 : w1.cell? ⟨w.heap.size + 1, 1, none⟩ = some (.int .i64 (den / gcdI (absI num) den)) := by rw [hc _ _ (by simp)]; simp [go_sem]
    have f0 : w1.frozen? ⟨w.heap.size, 0, none⟩ = false := by rw [hf _ _ (by simp; omega)]; simp [go_sem]
    have f1 : w1.frozen? ⟨w.heap.size, 1, none⟩ = false := by rw [hf _ _ (by simp; omega)]; simp [go_sem]
    clear hb1 hc hf hs
    go_wp2_with fail
    refine bodyPost_ret (v := .tuple #[.agg #[.int .i64 (num.tdiv (gcdI (absI num) den)), .int .i64 (den / gcdI (absI num) den)], .int .i64 0]) (by simp [results, Try.results190, go_sem, q0, q1]) rfl ?_
    rw [HN.out, HD.out, HE.out]
    have hb := HB.out
    refine RR.mk rfl rfl rfl ?_
    exact (((below_step (B := w.heap.size) (by first | exact (below_drewN ((Below.refl _ _).alloc (Nat.le_refl _) _) _).alloc (by simp) _ | exact (((Below.refl _ _).alloc (Nat.le_refl _) _).drew).alloc (by simp) _) hb (by simp; omega)).setCell (Nat.le_refl _) _).setCell (Nat.le_refl _) _)
end Go.Proofs.Ythpgkngkmmameaa
