/-
  The contracts of slices.Max, slices.Index, equalWeights. Conditions: at most 1048576 elements.
-/
import Derived.Test.YthpgkngkmmameaaQuiet
import Derived.Test.YthpgkngkmmameaaSums
import Derived.Test.YthpgkngkmmameaaFlatFacts
import Derived.Deep.OwnRows
namespace Go.Proofs.Ythpgkngkmmameaa
open Go.RowKit
set_option linter.unusedVariables false

theorem sumD_sumL (zs : List Int) : sumD zs = sumL zs := rfl
/-- A new row of zeros. -/
theorem OI.made (w : World) (n : Nat) : OI (w.alloc (.cells (madeCells #[.int .i64 0] n) 2)) w.heap.size (w.heap.size + 1) (some ⟨w.heap.size, 0, none⟩) (List.replicate n 0) := by
  refine .inr ⟨w.heap.size, 0, rfl, Nat.le_refl _, by omega, by simp, fun j x hx => ?_, fun j => ?_⟩
  rotate_left
  · have hb := heap_alloc_new w (.cells (madeCells #[.int .i64 0] n) 2)
    unfold World.frozen?
    simp only
    rw [hb]
    simp
  have hj : j < n := by
    have := (List.getElem?_eq_some_iff.1 hx).1
    simpa using this
  have hx' : x = 0 := by
    rw [List.getElem?_replicate, if_pos hj] at hx
    injection hx with hx
    exact hx.symm
  subst hx'
  have h1 : (madeCells #[Value.int .i64 0] n).toList = List.replicate n (Value.int .i64 0) := toList_madeCells_one _ _
  have h2 : (madeCells #[Value.int .i64 0] n)[j]? = some (Value.int .i64 0) := by
    rw [← Array.getElem?_toList, h1, List.getElem?_replicate, if_pos hj]
  have hb := heap_alloc_new w (.cells (madeCells #[.int .i64 0] n) 2)
  unfold World.cell?
  simp only
  rw [hb]
  simpa using h2
theorem slices_Max_c (A : Option Addr) (n c : Nat) (zs : List Int) (w : World) (hn : zs.length = n) (h1 : 1 ≤ n) (hm : n ≤ 1048576) (hr : RI w A zs) :
    Calls Try.prog 152 #[.slice A n c] w fun e w' => e = .returned (.int .i64 (zs.getD (amaxL zs) 0)) ∧ w = w' := by
  subst hn
  rcases hr.split with h0 | ⟨b, off, rfl, hb, hc⟩
  · omega
  obtain ⟨x0, hx0⟩ := get_some (zs := zs) (k := 0) (by omega)
  have hc0 := hc.out 0 x0 hx0
  rw [Nat.add_zero] at hc0
  have H0 := Lib.hid (show zs.getD 0 0 = x0 by simp [List.getD, hx0])
  clear hx0
  have hl : ¬ (zs.length : Int) < 1 := by omega
  go_enter Try.func152, Try.ntmps152
  go_wp2_with fail
  go_loop [3, 4] (fun m i => ∃ (k : Nat) (y : Int), m = .int .i64 y ∧ i = .int .i64 (k + 1 : Nat) ∧ k + 1 ≤ zs.length ∧ Hid (zs.getD (amaxTo zs k) 0 = y)) (fun _ i => zs.length - (intOf i).toNat)
  case atStart => exact ⟨0, x0, rfl, rfl, h1, H0⟩
  case round =>
    obtain ⟨k, y, rfl, rfl, hk, hy⟩ := hrel
    by_cases hlt : k + 1 < zs.length
    · obtain ⟨x, hx⟩ := get_some hlt
      have hcx := hc.out (k + 1) x hx
      have b1 : ((k + 1 : Nat) : Int) < (zs.length : Int) := by omega
      have b2 : (0 : Int) ≤ ((k + 1 : Nat) : Int) := by omega
      have HX := Lib.hid (show zs.getD (k + 1) 0 = x by simp [List.getD, hx])
      clear hx
      by_cases hxy : y < x
      · have HS := Lib.hid (show zs.getD (amaxTo zs (k + 1)) 0 = x by unfold amaxTo; rw [if_pos (by rw [hy.out, HX.out]; exact hxy)]; exact HX.out)
        go_wp2_with fail
        go_round
        case rel => exact ⟨k + 1, _, by first | rfl | (rw [Int.max_def]; go_num), by go_num, by omega, HS⟩
        case measure => simp [intOf]; omega
      · have HS := Lib.hid (show zs.getD (amaxTo zs (k + 1)) 0 = y by unfold amaxTo; rw [if_neg (by rw [hy.out, HX.out]; exact hxy)]; exact hy.out)
        go_wp2_with fail
        go_round
        case rel => exact ⟨k + 1, _, by first | rfl | (rw [Int.max_def]; go_num), by go_num, by omega, HS⟩
        case measure => simp [intOf]; omega
    · have hke : k = zs.length - 1 := by omega
      have HS := Lib.hid (show zs.getD (amaxL zs) 0 = y by unfold amaxL; rw [← hke]; exact hy.out)
      clear hke
      go_wp2_with fail
      go_ret
      exact ⟨ret_int HS.out.symm, rfl⟩
theorem slices_Max_v (A : Option Addr) (n c : Nat) (zs : List Int) (y : Int) (w : World) (hn : zs.length = n) (h1 : 1 ≤ n) (hm : n ≤ 1048576) (hr : RI w A zs) (hy : Hid (zs.getD (amaxL zs) 0 = y)) :
    Calls Try.prog 152 #[.slice A n c] w fun e w' => e = .returned (.int .i64 y) ∧ w = w' := by
  have := slices_Max_c A n c zs w hn h1 hm hr
  rw [hy.out] at this
  exact this
/-- The first index at which v stands. -/
theorem slices_Index_c (A : Option Addr) (n c : Nat) (zs : List Int) (v : Int) (i : Nat) (w : World) (hn : zs.length = n) (hm : n ≤ 1048576) (hr : RI w A zs) (hi : i < n) (hv : Hid (zs.getD i 0 = v)) (hne : Hid (∀ j, j < i → zs.getD j 0 ≠ v)) :
    Calls Try.prog 151 #[.slice A n c, .int .i64 v] w fun e w' => e = .returned (.int .i64 i) ∧ w = w' := by
  subst hn
  rcases hr.split with h0 | ⟨b, off, rfl, hb, hc⟩
  · omega
  go_enter Try.func151, Try.ntmps151
  go_wp2_with fail
  go_loop [8] (fun s => ∃ k : Nat, s = .int .i64 k ∧ k ≤ i) (fun s => zs.length - (intOf s).toNat)
  case atStart => exact ⟨0, rfl, Nat.zero_le _⟩
  case round =>
    obtain ⟨k, rfl, hk⟩ := hrel
    obtain ⟨x, hx⟩ := get_some (zs := zs) (k := k) (by omega)
    have hcx := hc.out k x hx
    have b1 : (k : Int) < (zs.length : Int) := by omega
    have b2 : (0 : Int) ≤ (k : Int) := by omega
    have HX := Lib.hid (show zs.getD k 0 = x by simp [List.getD, hx])
    clear hx
    by_cases hki : k = i
    · subst hki
      obtain rfl : v = x := by rw [← hv.out, HX.out]
      have hvv : (v == v) = true := by simp
      go_wp2_with fail
      go_ret
      exact ⟨rfl, rfl⟩
    · have hvv : (v == x) = false := by
        have := hne.out k (by omega)
        rw [HX.out] at this
        simpa using fun h : v = x => this h.symm
      go_wp2_with fail
      go_round
      case rel => exact ⟨k + 1, by go_num, by omega⟩
      case measure => simp [intOf]; omega
theorem impl_equalWeights_c (n : Nat) (w : World) (h1 : n ≤ 1048576) :
    Calls Try.prog 100 #[.int .i64 n] w fun e w' => ∃ g, e = .returned (.slice (some ⟨g, 0, none⟩) n n) ∧ OI w' w.heap.size w'.heap.size (some ⟨g, 0, none⟩) (List.replicate n 1) ∧ Below w.heap.size w w' := by
  obtain ⟨i0, hi, hz0, hz1, hz2⟩ := info_parts info_int
  go_enter Try.func100, Try.ntmps100
  go_wp2_with (at_make; refine wpList_make_full _ rfl _ _ _ rfl w.heap.size 2 i0 _ 1 Try.underlying22 hi hz0 hz1 _ _ _ _ n rfl rfl rfl rfl (by rw [hz2]; omega) (by unfold maxLen; omega) (Nat.le_refl _) ?_; intro w1 hown1 hg1)
  rw [Nat.mul_one, show (Value.int IntKind.i64 0).cells = #[Value.int IntKind.i64 0] from rfl, toList_madeCells_one, show List.replicate n (Value.int IntKind.i64 0) = (List.replicate n (0 : Int)).map (.int .i64) from by simp] at hown1
  have ho1 := OI.of_row hown1
  have hb1 : Below w.heap.size w w1 := (Below.refl _ _).grown hg1 (Nat.le_refl _) (by simp)
  clear hown1 hg1 hi hz0 hz1 hz2
  go_loopw [9] (fun i wr => ∃ k : Nat, i = .int .i64 k ∧ k ≤ n ∧ w1.heap.size ≤ wr.heap.size ∧ OI wr w.heap.size w1.heap.size (some ⟨w.heap.size, 0, none⟩) (List.replicate k 1 ++ List.replicate (n - k) 0) ∧ Below w.heap.size w wr) (fun i _ => n - (intOf i).toNat)
  case atStart => exact ⟨0, rfl, Nat.zero_le _, Nat.le_refl _, by simpa using ho1, hb1⟩
  case round =>
    obtain ⟨k, rfl, hk, hsz, ho, hbr⟩ := hrel
    by_cases hlt : k < n
    · obtain ⟨⟨y, hg1⟩, hg2⟩ := OI.at_ ho (j := k) (by simp; omega)
      have hset := OI.set ho (j := k) (by simp; omega) 1
      rw [Nat.zero_add] at hg1 hg2 hset
      rw [set_two _ _ (by omega), Nat.sub_sub] at hset
      go_wp2
      go_roundw
      case rel => exact ⟨k + 1, by go_num, by omega, by simpa [World.setCell] using hsz, hset, hbr.setCell (Nat.le_refl _) _⟩
      case measure => simp [intOf]; omega
    · go_wp2
      go_ret
      refine ⟨_, rfl, ?_, hbr⟩
      obtain rfl : k = n := by omega
      rw [Nat.sub_self, List.replicate_zero, List.append_nil] at ho
      exact ho.widen (Nat.le_refl _) hsz
end Go.Proofs.Ythpgkngkmmameaa
