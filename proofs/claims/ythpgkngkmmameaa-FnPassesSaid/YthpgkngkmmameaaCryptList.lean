/-
  The contracts of chapter 32's functions on lists. Conditions: as each contract states them.
-/
import Derived.Test.YthpgkngkmmameaaCryptOpen
import Derived.Test.YthpgkngkmmameaaLaw
namespace Go.Proofs.Ythpgkngkmmameaa
open Go.RowKit
set_option linter.unusedVariables false

theorem all_step {p : Int → Bool} {zs : List Int} {k : Nat} {x : Int} (hx : zs[k]? = some x) : (zs.take (k + 1)).all p = ((zs.take k).all p && p x) := by
  rw [List.take_add_one, hx]; simp
theorem all_fail {p : Int → Bool} {zs : List Int} {k : Nat} {x : Int} (hx : zs[k]? = some x) (h : p x = false) : zs.all p = false := by
  rw [List.all_eq_false]
  exact ⟨x, List.mem_of_getElem? hx, by simp [h]⟩
theorem all_done {p : Int → Bool} {zs : List Int} {k : Nat} (hk : ¬ k < zs.length) (h : (zs.take k).all p = true) : zs.all p = true := by
  rwa [List.take_of_length_le (by omega)] at h

theorem spec_l32Squares_c (A : Option Addr) (n c : Nat) (zs : List Int) (w : World) (hn : zs.length = n) (hm : n ≤ 1048576) (hr : RI w A zs) :
    Calls Try.prog 132 #[.slice A n c] w fun e w' => e = .returned (.bool (zs.all isSq && decide (n ≤ 52))) ∧ w = w' := by
  subst hn
  rcases hr.split with h0 | ⟨b, off, rfl, hb, hc⟩
  all_goals
    go_enter Try.func132, Try.ntmps132
    go_wp2_with fail
    go_loop [3] (fun i => ∃ k : Nat, i = .int .i64 k ∧ k ≤ zs.length ∧ (zs.take k).all isSq = true) (fun i => zs.length - (intOf i).toNat)
    case atStart => exact ⟨0, rfl, Nat.zero_le _, by simp⟩
    case round =>
      obtain ⟨k, rfl, hk, ha⟩ := hrel
      have HA := Lib.hid ha
      clear ha
      by_cases hlt : k < zs.length
      · first
          | (exfalso; omega; done)
          | (obtain ⟨x, hx⟩ := get_some hlt
             have hcx := hc.out k x hx
             have HX := Lib.hid hx
             clear hx
             cases hs : isSq x
             · go_wp2_with (go_at_call 177; refine (spec_IsSquare_c _ _).mono ?_; rintro e w' ⟨rfl, rfl⟩)
               go_ret
               exact ⟨ret_bool (by rw [all_fail HX.out hs]; rfl), rfl⟩
             · go_wp2_with (go_at_call 177; refine (spec_IsSquare_c _ _).mono ?_; rintro e w' ⟨rfl, rfl⟩)
               go_round
               case rel => exact ⟨k + 1, by go_num, by omega, by rw [all_step HX.out, HA.out, hs]; rfl⟩
               case measure => simp [intOf]; omega)
      · by_cases h52 : zs.length ≤ 52
        · go_wp2_with fail
          go_ret
          exact ⟨ret_bool (by rw [all_done hlt HA.out]; simp; omega), rfl⟩
        · go_wp2_with fail
          go_ret
          exact ⟨ret_bool (by simp; omega), rfl⟩

theorem impl_areSquares1_c (x : Int) (w : World) : Calls Try.prog 175 #[.int .i64 x] w fun e w' => e = .returned (.bool (!isSq x)) ∧ w = w' := by
  go_enter Try.func175, Try.ntmps175
  go_wp2_with (go_at_call 139; refine (impl_IsSquare_c _ _).mono ?_; rintro e w' ⟨rfl, rfl⟩)
  go_ret
  exact ⟨rfl, rfl⟩
/-- The place of the first number that is no square, or -1; only its sign is told. -/
theorem indexFunc_c (A : Option Addr) (n c : Nat) (zs : List Int) (w : World) (hn : zs.length = n) (hm : n ≤ 1048576) (hr : RI w A zs) :
    Calls Try.prog 186 #[.slice A n c, .func (.func 175) #[] #[]] w fun e w' => (∃ k : Int, e = .returned (.int .i64 k) ∧ -1 ≤ k ∧ k ≤ 1048576 ∧ decide (k ≥ 0) = !zs.all isSq) ∧ w = w' := by
  subst hn
  rcases hr.split with h0 | ⟨b, off, rfl, hb, hc⟩
  all_goals
    go_enter Try.func186, Try.ntmps186
    go_wp2_with fail
    go_loop [8] (fun i => ∃ k : Nat, i = .int .i64 k ∧ k ≤ zs.length ∧ (zs.take k).all isSq = true) (fun i => zs.length - (intOf i).toNat)
    case atStart => exact ⟨0, rfl, Nat.zero_le _, by simp⟩
    case round =>
      obtain ⟨k, rfl, hk, ha⟩ := hrel
      have HA := Lib.hid ha
      clear ha
      by_cases hlt : k < zs.length
      · first
          | (exfalso; omega; done)
          | (obtain ⟨x, hx⟩ := get_some hlt
             have hcx := hc.out k x hx
             have HX := Lib.hid hx
             clear hx
             cases hs : isSq x
             · go_wp2_with (go_at_call 175; refine (impl_areSquares1_c _ _).mono ?_; rintro e w' ⟨rfl, rfl⟩)
               go_ret
               exact ⟨⟨k, rfl, by omega, by omega, by rw [all_fail HX.out hs]; simp⟩, rfl⟩
             · go_wp2_with (go_at_call 175; refine (impl_areSquares1_c _ _).mono ?_; rintro e w' ⟨rfl, rfl⟩)
               go_round
               case rel => exact ⟨k + 1, by go_num, by omega, by rw [all_step HX.out, HA.out, hs]; rfl⟩
               case measure => simp [intOf]; omega)
      · go_wp2_with fail
        go_ret
        exact ⟨⟨-1, rfl, by omega, by omega, by rw [all_done hlt HA.out]; rfl⟩, rfl⟩
theorem containsFunc_c (A : Option Addr) (n c : Nat) (zs : List Int) (w : World) (hn : zs.length = n) (hm : n ≤ 1048576) (hr : RI w A zs) :
    Calls Try.prog 174 #[.slice A n c, .func (.func 175) #[] #[]] w fun e w' => e = .returned (.bool (!zs.all isSq)) ∧ w = w' := by
  go_enter Try.func174, Try.ntmps174
  go_wp2_with fail
  refine (indexFunc_c A n c zs _ hn hm hr).mono ?_
  rintro e w' ⟨⟨k, rfl, k0, k1, hk⟩, rfl⟩
  have HK := Lib.hid hk
  clear hk
  go_wp2_with fail
  all_goals
    go_ret
    exact ⟨ret_bool (by first | (rw [← HK.out]; done) | (rw [← HK.out]; simp [*])), rfl⟩
theorem impl_areSquares_c (A : Option Addr) (n c : Nat) (zs : List Int) (w : World) (hn : zs.length = n) (hm : n ≤ 1048576) (hr : RI w A zs) :
    Calls Try.prog 130 #[.slice A n c] w fun e w' => e = .returned (.bool (zs.all isSq)) ∧ w = w' := by
  go_enter Try.func130, Try.ntmps130
  go_wp2_with (go_at_call 174; refine (containsFunc_c A n c zs _ hn hm hr).mono ?_; rintro e w' ⟨rfl, rfl⟩)
  go_ret
  exact ⟨ret_bool (by simp), rfl⟩
end Go.Proofs.Ythpgkngkmmameaa
