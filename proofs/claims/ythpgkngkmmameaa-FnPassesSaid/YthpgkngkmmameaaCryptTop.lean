/-
  The contracts of chapter 32's exported functions on numbers, in the program and in the reference: both sides of each pair come to one function. Conditions: none but those that each contract states.
-/
import Derived.Test.YthpgkngkmmameaaCrypt
namespace Go.Proofs.Ythpgkngkmmameaa
open Go.RowKit
set_option linter.unusedVariables false

/-- What each exported function comes to. -/
def powV (x n : Int) : Int := if inB x 1 2038 = true ∧ inB n 0 1000000000 = true then pw x n else 0
def powE (x n : Int) : Int := if inB x 1 2038 = true ∧ inB n 0 1000000000 = true then 0 else 2
def isSq (x : Int) : Bool := inB x 1 2038 && (pw x 1019 == 1)
def invV (k : Int) : Int := if inB k 1 1018 = true then invI k else 0
def invE (k : Int) : Int := if inB k 1 1018 = true then 0 else 2
def codeV (c : Int) : Int := if inB c 0 51 = true then codeI c else 0
def codeE (c : Int) : Int := if inB c 0 51 = true then 0 else 2
theorem pw_range (x n : Int) : 0 ≤ pw x n ∧ pw x n ≤ 2038 := by
  have := Nat.mod_lt (x.toNat ^ n.toNat) (show 0 < 2039 by decide)
  unfold pw
  omega

theorem impl_IsSquare_c (x : Int) (w : World) : Calls Try.prog 139 #[.int .i64 x] w fun e w' => e = .returned (.bool (isSq x)) ∧ w = w' := by
  cases h1 : inB x 1 2038
  · have HV := Lib.hid (show isSq x = false by simp [isSq, h1])
    go_enter Try.func139, Try.ntmps139
    go_wp2_with (go_at_call 94; refine (impl_within_c _ _ _ _).mono ?_; rintro e w' ⟨rfl, rfl⟩)
    go_ret
    exact ⟨ret_bool HV.out.symm, rfl⟩
  · have HV := Lib.hid (show isSq x = (pw x 1019 == 1) by simp [isSq, h1])
    obtain ⟨a1, a2⟩ := inB_iff.1 h1
    go_enter Try.func139, Try.ntmps139
    go_wp2_with (first | (go_at_call 94; refine (impl_within_c _ _ _ _).mono ?_; rintro e w' ⟨rfl, rfl⟩) | (go_at_call 141; refine (impl_powerModulo_c _ _ _ (by omega) (by omega) (by omega) (by omega)).mono ?_; rintro e w' ⟨rfl, rfl⟩))
    go_ret
    exact ⟨ret_bool HV.out.symm, rfl⟩
theorem spec_IsSquare_c (x : Int) (w : World) : Calls Try.prog 177 #[.int .i64 x] w fun e w' => e = .returned (.bool (isSq x)) ∧ w = w' := by
  cases h1 : inB x 1 2038
  · have HV := Lib.hid (show isSq x = false by simp [isSq, h1])
    go_enter Try.func177, Try.ntmps177
    go_wp2_with (go_at_call 98; refine (spec_l01In_c _ _ _ _).mono ?_; rintro e w' ⟨rfl, rfl⟩)
    go_ret
    exact ⟨ret_bool HV.out.symm, rfl⟩
  · have HV := Lib.hid (show isSq x = (pw x 1019 == 1) by simp [isSq, h1])
    obtain ⟨a1, a2⟩ := inB_iff.1 h1
    go_enter Try.func177, Try.ntmps177
    go_wp2_with (first | (go_at_call 98; refine (spec_l01In_c _ _ _ _).mono ?_; rintro e w' ⟨rfl, rfl⟩) | (go_at_call 178; refine (spec_l32Power_c _ _ _ (by omega) (by omega) (by omega) (by omega)).mono ?_; rintro e w' ⟨rfl, rfl⟩))
    go_ret
    exact ⟨ret_bool HV.out.symm, rfl⟩
end Go.Proofs.Ythpgkngkmmameaa
