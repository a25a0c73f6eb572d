/-
  The contracts of IsField and ArePrizes. Conditions: at most 1048576 elements.
-/
import Derived.Test.YthpgkngkmmameaaDesc
namespace Go.Proofs.Ythpgkngkmmameaa
open Go.RowKit
set_option linter.unusedVariables false

def fieldB (zs : List Int) : Bool := inB (zs.length : Int) 2 5 && allIn zs 1 1000
theorem fieldB_iff {zs : List Int} : fieldB zs = true ↔ 2 ≤ zs.length ∧ zs.length ≤ 5 ∧ ∀ x ∈ zs, 1 ≤ x ∧ x ≤ 1000 := by
  unfold fieldB
  rw [Bool.and_eq_true, allIn_iff, inB_iff]
  constructor
  · rintro ⟨⟨a, b⟩, c⟩; exact ⟨by omega, by omega, c⟩
  · rintro ⟨a, b, c⟩; exact ⟨⟨by omega, by omega⟩, c⟩
theorem impl_IsField_c (A : Option Addr) (n c : Nat) (zs : List Int) (w : World) (hn : zs.length = n) (hm : n ≤ 1048576) (hr : RI w A zs) :
    Calls Try.prog 156 #[.slice A n c] w fun e w' => e = .returned (.bool (fieldB zs)) ∧ w = w' := by
  subst hn
  cases h1 : inB (zs.length : Int) 2 5
  · have HR := Lib.hid (show fieldB zs = false by simp [fieldB, h1])
    go_enter Try.func156, Try.ntmps156
    go_wp2_with (go_at_call 94; refine (impl_within_c _ _ _ _).mono ?_; rintro e w' ⟨rfl, rfl⟩)
    go_ret
    exact ⟨ret_bool HR.out.symm, rfl⟩
  · have HR := Lib.hid (show fieldB zs = allIn zs 1 1000 by simp [fieldB, h1])
    go_enter Try.func156, Try.ntmps156
    go_wp2_with (first
      | (go_at_call 94; refine (impl_within_c _ _ _ _).mono ?_; rintro e w' ⟨rfl, rfl⟩)
      | (go_at_call 95; refine (impl_allWithin_c _ _ _ zs _ _ _ rfl hm hr).mono ?_; rintro e w' ⟨rfl, rfl⟩))
    go_ret
    exact ⟨ret_bool HR.out.symm, rfl⟩
theorem spec_IsField_c (A : Option Addr) (n c : Nat) (zs : List Int) (w : World) (hn : zs.length = n) (hm : n ≤ 1048576) (hr : RI w A zs) :
    Calls Try.prog 157 #[.slice A n c] w fun e w' => e = .returned (.bool (fieldB zs)) ∧ w = w' := by
  subst hn
  rcases hr.split with h0 | ⟨b, off, rfl, hb, hc⟩
  all_goals
    go_enter Try.func157, Try.ntmps157
    go_wp2_with fail
    go_loop [3] (fun i => ∃ k : Nat, i = .int .i64 k ∧ k ≤ zs.length ∧ (zs.take k).all (fun x => inB x 1 1000) = true) (fun i => zs.length - (intOf i).toNat)
    case atStart => exact ⟨0, rfl, Nat.zero_le _, by simp⟩
    case round =>
      obtain ⟨k, rfl, hk, ha⟩ := hrel
      have HA := Lib.hid ha
      clear ha
      by_cases hlt : k < zs.length
      · first
          | (exfalso; omega; done)
          | (obtain ⟨x, hx⟩ := get_some hlt
             have hcx := hc.out k x hx
             have HX := Lib.hid hx
             clear hx
             cases hs : inB x 1 1000
             · have hf := allB_fail (p := fun x => inB x 1 1000) HX.out hs
               have HR := Lib.hid (show fieldB zs = false by unfold fieldB allIn; rw [hf]; simp)
               clear hf
               go_wp2_with (go_at_call 98; refine (spec_l01In_c _ _ _ _).mono ?_; rintro e w' ⟨rfl, rfl⟩)
               go_ret
               exact ⟨ret_bool HR.out.symm, rfl⟩
             · go_wp2_with (go_at_call 98; refine (spec_l01In_c _ _ _ _).mono ?_; rintro e w' ⟨rfl, rfl⟩)
               go_round
               case rel => exact ⟨k + 1, by go_num, by omega, by rw [allB_step HX.out, HA.out, hs]; rfl⟩
               case measure => simp [intOf]; omega)
      · have hd := allB_done (p := fun x => inB x 1 1000) hlt HA.out
        have HR := Lib.hid (show fieldB zs = inB (zs.length : Int) 2 5 by unfold fieldB allIn; rw [hd]; simp)
        clear hd
        go_wp2_with (go_at_call 98; refine (spec_l01In_c _ _ _ _).mono ?_; rintro e w' ⟨rfl, rfl⟩)
        go_ret
        exact ⟨ret_bool HR.out.symm, rfl⟩
end Go.Proofs.Ythpgkngkmmameaa
