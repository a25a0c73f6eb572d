/-
  The contracts of allWithin, sumOf, l01Sum. Conditions: at most 1048576 elements; for a sum each element at most 4000000000 in size.
-/
import Derived.Test.YthpgkngkmmameaaLaw
import Derived.Test.YthpgkngkmmameaaCardOne
namespace Go.Proofs.Ythpgkngkmmameaa
open Go.RowKit
set_option linter.unusedVariables false

theorem allB_step {p : Int → Bool} {zs : List Int} {k : Nat} {x : Int} (hx : zs[k]? = some x) : (zs.take (k + 1)).all p = ((zs.take k).all p && p x) := by
  rw [List.take_add_one, hx]; simp
theorem allB_fail {p : Int → Bool} {zs : List Int} {k : Nat} {x : Int} (hx : zs[k]? = some x) (h : p x = false) : zs.all p = false := by
  rw [List.all_eq_false]
  exact ⟨x, List.mem_of_getElem? hx, by simp [h]⟩
theorem allB_done {p : Int → Bool} {zs : List Int} {k : Nat} (hk : ¬ k < zs.length) (h : (zs.take k).all p = true) : zs.all p = true := by
  rwa [List.take_of_length_le (by omega)] at h
/-- All lie in lo..hi. -/
def allIn (zs : List Int) (lo hi : Int) : Bool := zs.all fun x => inB x lo hi
theorem allIn_iff {zs : List Int} {lo hi : Int} : allIn zs lo hi = true ↔ ∀ x ∈ zs, lo ≤ x ∧ x ≤ hi := by
  simp [allIn, inB]
def sumL (zs : List Int) : Int := zs.foldl (· + ·) 0
theorem sumL_step {zs : List Int} {k : Nat} {x : Int} (hx : zs[k]? = some x) : sumL (zs.take (k + 1)) = sumL (zs.take k) + x := by
  unfold sumL
  rw [List.take_add_one, hx, List.foldl_append]; rfl
theorem sumL_done {zs : List Int} {k : Nat} (hk : ¬ k < zs.length) : sumL (zs.take k) = sumL zs := by
  rw [List.take_of_length_le (by omega)]
theorem sumL_bound {zs : List Int} {B : Int} (hB : 0 ≤ B) (h : ∀ x ∈ zs, -B ≤ x ∧ x ≤ B) (k : Nat) : -(B * k) ≤ sumL (zs.take k) ∧ sumL (zs.take k) ≤ B * k := by
  induction k with
  | zero => simp [sumL]
  | succ k ih =>
    have e : B * ((k + 1 : Nat) : Int) = B * k + B := by rw [Int.natCast_add, Int.mul_add]; simp
    rw [e]
    by_cases hk : k < zs.length
    · have hx : zs[k]? = some zs[k] := List.getElem?_eq_getElem hk
      rw [sumL_step hx]
      have := h zs[k] (List.getElem_mem hk)
      omega
    · rw [List.take_of_length_le (by omega)]
      rw [List.take_of_length_le (by omega)] at ih
      omega
theorem sumL_app (a b : List Int) : sumL (a ++ b) = sumL a + sumL b := by
  unfold sumL
  rw [List.foldl_append]
  have h : ∀ (l : List Int) (s : Int), l.foldl (· + ·) s = s + l.foldl (· + ·) 0 := by
    intro l
    induction l with
    | nil => intro s; simp
    | cons x l ih => intro s; rw [List.foldl_cons, ih, List.foldl_cons, ih (0 + x)]; omega
  exact h b _

theorem impl_allWithin_c (A : Option Addr) (n c : Nat) (zs : List Int) (lo hi : Int) (w : World) (hn : zs.length = n) (hm : n ≤ 1048576) (hr : RI w A zs) :
    Calls Try.prog 95 #[.slice A n c, .int .i64 lo, .int .i64 hi] w fun e w' => e = .returned (.bool (allIn zs lo hi)) ∧ w = w' := by
  subst hn
  rcases hr.split with h0 | ⟨b, off, rfl, hb, hc⟩
  all_goals
    go_enter Try.func95, Try.ntmps95
    go_wp2_with fail
    go_loop [11] (fun i => ∃ k : Nat, i = .int .i64 k ∧ k ≤ zs.length ∧ (zs.take k).all (fun x => inB x lo hi) = true) (fun i => zs.length - (intOf i).toNat)
    case atStart => exact ⟨0, rfl, Nat.zero_le _, by simp⟩
    case round =>
      obtain ⟨k, rfl, hk, ha⟩ := hrel
      have HA := Lib.hid ha
      clear ha
      by_cases hlt : k < zs.length
      · first
          | (exfalso; omega; done)
          | (obtain ⟨x, hx⟩ := get_some hlt
             have hcx := hc.out k x hx
             have HX := Lib.hid hx
             clear hx
             cases hs : inB x lo hi
             · go_wp2_with (go_at_call 94; refine (impl_within_c _ _ _ _).mono ?_; rintro e w' ⟨rfl, rfl⟩)
               go_ret
               exact ⟨ret_bool (allB_fail (p := fun x => inB x lo hi) HX.out hs).symm, rfl⟩
             · go_wp2_with (go_at_call 94; refine (impl_within_c _ _ _ _).mono ?_; rintro e w' ⟨rfl, rfl⟩)
               go_round
               case rel => exact ⟨k + 1, by go_num, by omega, by rw [allB_step HX.out, HA.out, hs]; rfl⟩
               case measure => simp [intOf]; omega)
      · go_wp2_with fail
        go_ret
        exact ⟨ret_bool (allB_done (p := fun x => inB x lo hi) hlt HA.out).symm, rfl⟩
theorem impl_sumOf_c (A : Option Addr) (n c : Nat) (zs : List Int) (w : World) (hn : zs.length = n) (hm : n ≤ 1048576) (hr : RI w A zs) (hz : Hid (∀ x ∈ zs, -4000000000 ≤ x ∧ x ≤ 4000000000)) :
    Calls Try.prog 87 #[.slice A n c] w fun e w' => e = .returned (.int .i64 (sumL zs)) ∧ w = w' := by
  subst hn
  rcases hr.split with h0 | ⟨b, off, rfl, hb, hc⟩
  all_goals
    go_enter Try.func87, Try.ntmps87
    go_wp2_with fail
    go_loop [3, 8] (fun s i => ∃ k : Nat, s = .int .i64 (sumL (zs.take k)) ∧ i = .int .i64 k ∧ k ≤ zs.length) (fun _ i => zs.length - (intOf i).toNat)
    case atStart => exact ⟨0, rfl, rfl, Nat.zero_le _⟩
    case round =>
      obtain ⟨k, rfl, rfl, hk⟩ := hrel
      by_cases hlt : k < zs.length
      · first
          | (exfalso; omega; done)
          | (obtain ⟨x, hx⟩ := get_some hlt
             have hcx := hc.out k x hx
             obtain ⟨x0, x1⟩ := hz.out x (List.mem_of_getElem? hx)
             obtain ⟨s0, s1⟩ := sumL_bound (B := 4000000000) (by omega) hz.out k
             have HS := Lib.hid (sumL_step hx)
             clear hx
             go_wp2_with fail
             go_round
             case rel => exact ⟨k + 1, by rw [HS.out], by go_num, by omega⟩
             case measure => simp [intOf]; omega)
      · have HS := Lib.hid (sumL_done hlt)
        go_wp2_with fail
        go_ret
        exact ⟨ret_int HS.out, rfl⟩
theorem spec_l01Sum_c (A : Option Addr) (n c : Nat) (zs : List Int) (w : World) (hn : zs.length = n) (hm : n ≤ 1048576) (hr : RI w A zs) (hz : Hid (∀ x ∈ zs, -4000000000 ≤ x ∧ x ≤ 4000000000)) :
    Calls Try.prog 84 #[.slice A n c] w fun e w' => e = .returned (.int .i64 (sumL zs)) ∧ w = w' := by
  subst hn
  rcases hr.split with h0 | ⟨b, off, rfl, hb, hc⟩
  all_goals
    go_enter Try.func84, Try.ntmps84
    go_wp2_with fail
    go_loop [3, 4] (fun s i => ∃ k : Nat, s = .int .i64 (sumL (zs.take k)) ∧ i = .int .i64 k ∧ k ≤ zs.length) (fun _ i => zs.length - (intOf i).toNat)
    case atStart => exact ⟨0, rfl, rfl, Nat.zero_le _⟩
    case round =>
      obtain ⟨k, rfl, rfl, hk⟩ := hrel
      by_cases hlt : k < zs.length
      · first
          | (exfalso; omega; done)
          | (obtain ⟨x, hx⟩ := get_some hlt
             have hcx := hc.out k x hx
             obtain ⟨x0, x1⟩ := hz.out x (List.mem_of_getElem? hx)
             obtain ⟨s0, s1⟩ := sumL_bound (B := 4000000000) (by omega) hz.out k
             have HS := Lib.hid (sumL_step hx)
             clear hx
             go_wp2_with fail
             go_round
             case rel => exact ⟨k + 1, by rw [HS.out], by go_num, by omega⟩
             case measure => simp [intOf]; omega)
      · have HS := Lib.hid (sumL_done hlt)
        go_wp2_with fail
        go_ret
        exact ⟨ret_int HS.out, rfl⟩
end Go.Proofs.Ythpgkngkmmameaa
