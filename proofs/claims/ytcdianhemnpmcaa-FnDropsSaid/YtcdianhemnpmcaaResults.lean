/-
  The contracts of areResults, l33Results. Conditions: at most 1048576 elements.
-/
import Derived.Test.YtcdianhemnpmcaaSums
namespace Go.Proofs.Ytcdianhemnpmcaa
open Go.RowKit
set_option linter.unusedVariables false

def resB (zs : List Int) : Bool := inB (zs.length : Int) 1 100 && allIn zs (-1000) 1000
theorem resB_iff {zs : List Int} : resB zs = true ↔ 1 ≤ zs.length ∧ zs.length ≤ 100 ∧ ∀ x ∈ zs, -1000 ≤ x ∧ x ≤ 1000 := by
  unfold resB
  rw [Bool.and_eq_true, allIn_iff, inB_iff]
  constructor
  · rintro ⟨⟨a, b⟩, c⟩; exact ⟨by omega, by omega, c⟩
  · rintro ⟨a, b, c⟩; exact ⟨⟨by omega, by omega⟩, c⟩
theorem impl_areResults_c (A : Option Addr) (n c : Nat) (zs : List Int) (w : World) (hn : zs.length = n) (hm : n ≤ 1048576) (hr : RI w A zs) :
    Calls Try.prog 48 #[.slice A n c] w fun e w' => e = .returned (.bool (resB zs)) ∧ w = w' := by
  subst hn
  cases h1 : inB (zs.length : Int) 1 100
  · have HR := Lib.hid (show resB zs = false by simp [resB, h1])
    go_enter Try.func48, Try.ntmps48
    go_wp2_with (go_at_call 60; refine (impl_within_c _ _ _ _).mono ?_; rintro e w' ⟨rfl, rfl⟩)
    go_ret
    exact ⟨ret_bool HR.out.symm, rfl⟩
  · have HR := Lib.hid (show resB zs = allIn zs (-1000) 1000 by simp [resB, h1])
    go_enter Try.func48, Try.ntmps48
    go_wp2_with (first
      | (go_at_call 60; refine (impl_within_c _ _ _ _).mono ?_; rintro e w' ⟨rfl, rfl⟩)
      | (go_at_call 72; refine (impl_allWithin_c _ _ _ zs _ _ _ rfl hm hr).mono ?_; rintro e w' ⟨rfl, rfl⟩))
    go_ret
    exact ⟨ret_bool HR.out.symm, rfl⟩
theorem spec_l33Results_c (A : Option Addr) (n c : Nat) (zs : List Int) (w : World) (hn : zs.length = n) (hm : n ≤ 1048576) (hr : RI w A zs) :
    Calls Try.prog 47 #[.slice A n c] w fun e w' => e = .returned (.bool (resB zs)) ∧ w = w' := by
  subst hn
  rcases hr.split with h0 | ⟨b, off, rfl, hb, hc⟩
  all_goals
    go_enter Try.func47, Try.ntmps47
    go_wp2_with fail
    go_loop [3] (fun i => ∃ k : Nat, i = .int .i64 k ∧ k ≤ zs.length ∧ (zs.take k).all (fun x => inB x (-1000) 1000) = true) (fun i => zs.length - (intOf i).toNat)
    case atStart => exact ⟨0, rfl, Nat.zero_le _, by simp⟩
    case round =>
      obtain ⟨k, rfl, hk, ha⟩ := hrel
      have HA := Lib.hid ha
      clear ha
      by_cases hlt : k < zs.length
      · first
          | (exfalso; omega; done)
          | (obtain ⟨x, hx⟩ := get_some hlt
             have hcx := hc.out k x hx
             have HX := Lib.hid hx
             clear hx
             cases hs : inB x (-1000) 1000
             · have hf := allB_fail (p := fun x => inB x (-1000) 1000) HX.out hs
               have HR := Lib.hid (show resB zs = false by unfold resB allIn; rw [hf]; simp)
               clear hf
               go_wp2_with (go_at_call 68; refine (spec_l01In_c _ _ _ _).mono ?_; rintro e w' ⟨rfl, rfl⟩)
               go_ret
               exact ⟨ret_bool HR.out.symm, rfl⟩
             · go_wp2_with (go_at_call 68; refine (spec_l01In_c _ _ _ _).mono ?_; rintro e w' ⟨rfl, rfl⟩)
               go_round
               case rel => exact ⟨k + 1, by go_num, by omega, by rw [allB_step HX.out, HA.out, hs]; rfl⟩
               case measure => simp [intOf]; omega)
      · have hd := allB_done (p := fun x => inB x (-1000) 1000) hlt HA.out
        have HR := Lib.hid (show resB zs = inB (zs.length : Int) 1 100 by unfold resB allIn; rw [hd]; simp)
        clear hd
        go_wp2_with (go_at_call 68; refine (spec_l01In_c _ _ _ _).mono ?_; rintro e w' ⟨rfl, rfl⟩)
        go_ret
        exact ⟨ret_bool HR.out.symm, rfl⟩
end Go.Proofs.Ytcdianhemnpmcaa
