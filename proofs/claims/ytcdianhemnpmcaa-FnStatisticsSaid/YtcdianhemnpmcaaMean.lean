/-
  The contracts of MeanOf. Conditions: at most 1048576 elements.
-/
import Derived.Test.YtcdianhemnpmcaaResults
import Derived.Test.YtcdianhemnpmcaaReduced
namespace Go.Proofs.Ytcdianhemnpmcaa
open Go.RowKit
set_option linter.unusedVariables false

theorem ratio_block {w W w1 : World} {a b : Int} (h0 : Below w.heap.size w W) (hW : W.heap[w.heap.size]? = some (.cells #[.int .i64 a, .int .i64 b] 23 (0, 0))) (hb : Below W.heap.size W w1) :
    w1.cell? ⟨w.heap.size, 0, none⟩ = some (.int .i64 a) ∧ w1.cell? ⟨w.heap.size, 1, none⟩ = some (.int .i64 b) ∧ w1.frozen? ⟨w.heap.size, 0, none⟩ = false ∧ w1.frozen? ⟨w.heap.size, 1, none⟩ = false ∧ w.heap.size < w1.heap.size ∧ Below w.heap.size w w1 := by
  have hlt : w.heap.size < W.heap.size := (Array.getElem?_eq_some_iff.1 hW).1
  have h1 := hb.block w.heap.size hlt
  rw [hW] at h1
  refine ⟨?_, ?_, ?_, ?_, Nat.lt_of_lt_of_le hlt hb.size, below_step h0 hb h0.size⟩
  · simp [World.cell?, h1]
  · simp [World.cell?, h1]
  · simp [World.frozen?, h1]
  · simp [World.frozen?, h1]
def meanN (zs : List Int) : Int := if resB zs = true then redN (sumL zs) zs.length else 0
def meanD (zs : List Int) : Int := if resB zs = true then redD (sumL zs) zs.length else 0
def meanE (zs : List Int) : Int := if resB zs = true then redE (sumL zs) zs.length else 1
theorem RI.alloc {w : World} {A : Option Addr} {zs : List Int} (h : RI w A zs) (o : Obj) : RI (w.alloc o) A zs := h.below ((Below.refl _ _).alloc (Nat.le_refl _) o)
theorem res_sum {zs : List Int} (h : resB zs = true) : -100000 ≤ sumL zs ∧ sumL zs ≤ 100000 ∧ 1 ≤ zs.length ∧ zs.length ≤ 100 := by
  obtain ⟨h1, h2, h3⟩ := resB_iff.1 h
  have := sumL_bound (B := 1000) (by omega) h3 zs.length
  rw [List.take_length] at this
  omega
theorem res_small {zs : List Int} (h : resB zs = true) : ∀ x ∈ zs, -4000000000 ≤ x ∧ x ≤ 4000000000 := fun x hx => by
  have := (resB_iff.1 h).2.2 x hx
  omega
theorem impl_MeanOf_c (A : Option Addr) (n c : Nat) (zs : List Int) (w : World) (hn : zs.length = n) (hm : n ≤ 1048576) (hr : RI w A zs) :
    Calls Try.prog 30 #[.slice A n c] w (RR w (meanN zs) (meanD zs) (meanE zs)) := by
  subst hn
  have hr1 := hr.alloc
  cases h : resB zs
  · have HN := Lib.hid (show meanN zs = 0 by simp [meanN, h])
    have HD := Lib.hid (show meanD zs = 0 by simp [meanD, h])
    have HE := Lib.hid (show meanE zs = 1 by simp [meanE, h])
    go_enter Try.func30, Try.ntmps30
    go_wp2_with (go_at_call 48; refine (impl_areResults_c _ _ _ zs _ rfl hm (hr.alloc _)).mono ?_; rintro e w' ⟨rfl, rfl⟩)
    refine bodyPost_ret (v := .tuple #[.agg #[.int .i64 0, .int .i64 0], .int .i64 1]) (by simp [results, Try.results30, go_sem]) rfl ?_
    rw [HN.out, HD.out, HE.out]
    exact RR.mk rfl rfl rfl ((Below.refl _ _).alloc (Nat.le_refl _) _)
  · have HN := Lib.hid (show meanN zs = redN (sumL zs) zs.length by simp [meanN, h])
    have HD := Lib.hid (show meanD zs = redD (sumL zs) zs.length by simp [meanD, h])
    have HE := Lib.hid (show meanE zs = redE (sumL zs) zs.length by simp [meanE, h])
    obtain ⟨s0, s1, n0, n1⟩ := res_sum h
    have hz := Lib.hid (res_small h)
    go_enter Try.func30, Try.ntmps30
    go_wp2_with (first
      | (go_at_call 48; refine (impl_areResults_c _ _ _ zs _ rfl hm (hr.alloc _)).mono ?_; rintro e w' ⟨rfl, rfl⟩)
      | (go_at_call 59; refine (impl_sumOf_c _ _ _ zs _ rfl hm (hr.alloc _) hz).mono ?_; rintro e w' ⟨rfl, rfl⟩))
    refine (impl_reduced_c _ _ _ (by omega) (by omega) (by omega) (by omega)).mono ?_
    rintro e w1 ⟨rfl, hb1⟩
    obtain ⟨q0, q1, f0, f1, hs', hbw⟩ := ratio_block ((Below.refl _ _).alloc (Nat.le_refl _) _) (heap_alloc_new w _) hb1
    have HB := Lib.hid hbw
    clear hb1 hbw
    go_wp2_with fail
    refine bodyPost_ret (v := .tuple #[.agg #[.int .i64 (redN (sumL zs) zs.length), .int .i64 (redD (sumL zs) zs.length)], .int .i64 (redE (sumL zs) zs.length)]) (by simp [results, Try.results30, go_sem, q0, q1]) rfl ?_
    rw [HN.out, HD.out, HE.out]
    exact RR.mk rfl rfl rfl ((HB.out.setCell (Nat.le_refl _) _).setCell (Nat.le_refl _) _)
end Go.Proofs.Ytcdianhemnpmcaa
