/-
  The contracts of chapter 32's exported functions on numbers, in the program and in the reference: both sides of each pair come to one function. Conditions: none but those that each contract states.
-/
import Derived.Test.YtiglekmlkklofaaCrypt
namespace Go.Proofs.Ytiglekmlkklofaa
open Go.RowKit
set_option linter.unusedVariables false

/-- What each exported function comes to. -/
def powV (x n : Int) : Int := if inB x 1 2038 = true ∧ inB n 0 1000000000 = true then pw x n else 0
def powE (x n : Int) : Int := if inB x 1 2038 = true ∧ inB n 0 1000000000 = true then 0 else 2
def isSq (x : Int) : Bool := inB x 1 2038 && (pw x 1019 == 1)
def invV (k : Int) : Int := if inB k 1 1018 = true then invI k else 0
def invE (k : Int) : Int := if inB k 1 1018 = true then 0 else 2
def codeV (c : Int) : Int := if inB c 0 51 = true then codeI c else 0
def codeE (c : Int) : Int := if inB c 0 51 = true then 0 else 2
theorem pw_range (x n : Int) : 0 ≤ pw x n ∧ pw x n ≤ 2038 := by
  have := Nat.mod_lt (x.toNat ^ n.toNat) (show 0 < 2039 by decide)
  unfold pw
  omega

theorem impl_PowerOf_c (x n : Int) (w : World) : Calls Try.prog 28 #[.int .i64 x, .int .i64 n] w fun e w' => e = .returned (.tuple #[.int .i64 (powV x n), .int .i64 (powE x n)]) ∧ w = w' := by
  cases h1 : inB x 1 2038
  · have hv : powV x n = 0 := by simp [powV, h1]
    have he : powE x n = 2 := by simp [powE, h1]
    have HV := Lib.hid hv
    have HE := Lib.hid he
    clear hv he
    go_enter Try.func28, Try.ntmps28
    go_wp2_with (go_at_call 65; refine (impl_within_c _ _ _ _).mono ?_; rintro e w' ⟨rfl, rfl⟩)
    go_ret2
    exact ⟨ret_int2 HV.out.symm HE.out.symm, rfl⟩
  · cases h2 : inB n 0 1000000000
    · have HV := Lib.hid (show powV x n = 0 by simp [powV, h2])
      have HE := Lib.hid (show powE x n = 2 by simp [powE, h2])
      go_enter Try.func28, Try.ntmps28
      go_wp2_with (go_at_call 65; refine (impl_within_c _ _ _ _).mono ?_; rintro e w' ⟨rfl, rfl⟩)
      go_ret2
      exact ⟨ret_int2 HV.out.symm HE.out.symm, rfl⟩
    · have HV := Lib.hid (show powV x n = pw x n by simp [powV, h1, h2])
      have HE := Lib.hid (show powE x n = 0 by simp [powE, h1, h2])
      obtain ⟨a1, a2⟩ := inB_iff.1 h1
      obtain ⟨b1, b2⟩ := inB_iff.1 h2
      go_enter Try.func28, Try.ntmps28
      go_wp2_with (first | (go_at_call 65; refine (impl_within_c _ _ _ _).mono ?_; rintro e w' ⟨rfl, rfl⟩) | (go_at_call 66; refine (impl_powerModulo_c _ _ _ (by omega) (by omega) (by omega) (by omega)).mono ?_; rintro e w' ⟨rfl, rfl⟩))
      go_ret2
      exact ⟨ret_int2 HV.out.symm HE.out.symm, rfl⟩
theorem spec_PowerOf_c (x n : Int) (w : World) : Calls Try.prog 27 #[.int .i64 x, .int .i64 n] w fun e w' => e = .returned (.tuple #[.int .i64 (powV x n), .int .i64 (powE x n)]) ∧ w = w' := by
  cases h1 : inB x 1 2038
  · have hv : powV x n = 0 := by simp [powV, h1]
    have he : powE x n = 2 := by simp [powE, h1]
    have HV := Lib.hid hv
    have HE := Lib.hid he
    clear hv he
    go_enter Try.func27, Try.ntmps27
    go_wp2_with (go_at_call 63; refine (spec_l01In_c _ _ _ _).mono ?_; rintro e w' ⟨rfl, rfl⟩)
    go_ret2
    exact ⟨ret_int2 HV.out.symm HE.out.symm, rfl⟩
  · cases h2 : inB n 0 1000000000
    · have HV := Lib.hid (show powV x n = 0 by simp [powV, h2])
      have HE := Lib.hid (show powE x n = 2 by simp [powE, h2])
      go_enter Try.func27, Try.ntmps27
      go_wp2_with (go_at_call 63; refine (spec_l01In_c _ _ _ _).mono ?_; rintro e w' ⟨rfl, rfl⟩)
      go_ret2
      exact ⟨ret_int2 HV.out.symm HE.out.symm, rfl⟩
    · have HV := Lib.hid (show powV x n = pw x n by simp [powV, h1, h2])
      have HE := Lib.hid (show powE x n = 0 by simp [powE, h1, h2])
      obtain ⟨a1, a2⟩ := inB_iff.1 h1
      obtain ⟨b1, b2⟩ := inB_iff.1 h2
      go_enter Try.func27, Try.ntmps27
      go_wp2_with (first | (go_at_call 63; refine (spec_l01In_c _ _ _ _).mono ?_; rintro e w' ⟨rfl, rfl⟩) | (go_at_call 64; refine (spec_l32Power_c _ _ _ (by omega) (by omega) (by omega) (by omega)).mono ?_; rintro e w' ⟨rfl, rfl⟩))
      go_ret2
      exact ⟨ret_int2 HV.out.symm HE.out.symm, rfl⟩
theorem impl_IsSquare_c (x : Int) (w : World) : Calls Try.prog 20 #[.int .i64 x] w fun e w' => e = .returned (.bool (isSq x)) ∧ w = w' := by
  cases h1 : inB x 1 2038
  · have HV := Lib.hid (show isSq x = false by simp [isSq, h1])
    go_enter Try.func20, Try.ntmps20
    go_wp2_with (go_at_call 65; refine (impl_within_c _ _ _ _).mono ?_; rintro e w' ⟨rfl, rfl⟩)
    go_ret
    exact ⟨ret_bool HV.out.symm, rfl⟩
  · have HV := Lib.hid (show isSq x = (pw x 1019 == 1) by simp [isSq, h1])
    obtain ⟨a1, a2⟩ := inB_iff.1 h1
    go_enter Try.func20, Try.ntmps20
    go_wp2_with (first | (go_at_call 65; refine (impl_within_c _ _ _ _).mono ?_; rintro e w' ⟨rfl, rfl⟩) | (go_at_call 66; refine (impl_powerModulo_c _ _ _ (by omega) (by omega) (by omega) (by omega)).mono ?_; rintro e w' ⟨rfl, rfl⟩))
    go_ret
    exact ⟨ret_bool HV.out.symm, rfl⟩
theorem spec_IsSquare_c (x : Int) (w : World) : Calls Try.prog 19 #[.int .i64 x] w fun e w' => e = .returned (.bool (isSq x)) ∧ w = w' := by
  cases h1 : inB x 1 2038
  · have HV := Lib.hid (show isSq x = false by simp [isSq, h1])
    go_enter Try.func19, Try.ntmps19
    go_wp2_with (go_at_call 63; refine (spec_l01In_c _ _ _ _).mono ?_; rintro e w' ⟨rfl, rfl⟩)
    go_ret
    exact ⟨ret_bool HV.out.symm, rfl⟩
  · have HV := Lib.hid (show isSq x = (pw x 1019 == 1) by simp [isSq, h1])
    obtain ⟨a1, a2⟩ := inB_iff.1 h1
    go_enter Try.func19, Try.ntmps19
    go_wp2_with (first | (go_at_call 63; refine (spec_l01In_c _ _ _ _).mono ?_; rintro e w' ⟨rfl, rfl⟩) | (go_at_call 64; refine (spec_l32Power_c _ _ _ (by omega) (by omega) (by omega) (by omega)).mono ?_; rintro e w' ⟨rfl, rfl⟩))
    go_ret
    exact ⟨ret_bool HV.out.symm, rfl⟩
theorem impl_InverseKey_c (k : Int) (w : World) : Calls Try.prog 22 #[.int .i64 k] w fun e w' => e = .returned (.tuple #[.int .i64 (invV k), .int .i64 (invE k)]) ∧ w = w' := by
  cases h1 : inB k 1 1018
  · have HV := Lib.hid (show invV k = 0 by simp [invV, h1])
    have HE := Lib.hid (show invE k = 2 by simp [invE, h1])
    go_enter Try.func22, Try.ntmps22
    go_wp2_with (go_at_call 69; refine (impl_isKey_c _ _).mono ?_; rintro e w' ⟨rfl, rfl⟩)
    go_ret2
    exact ⟨ret_int2 HV.out.symm HE.out.symm, rfl⟩
  · have HV := Lib.hid (show invV k = invI k by simp [invV, h1])
    have HE := Lib.hid (show invE k = 0 by simp [invE, h1])
    obtain ⟨a1, a2⟩ := inB_iff.1 h1
    go_enter Try.func22, Try.ntmps22
    go_wp2_with (first | (go_at_call 69; refine (impl_isKey_c _ _).mono ?_; rintro e w' ⟨rfl, rfl⟩) | (go_at_call 70; refine (impl_inverseKey_c _ _ (by omega) (by omega)).mono ?_; rintro e w' ⟨rfl, rfl⟩))
    go_ret2
    exact ⟨ret_int2 HV.out.symm HE.out.symm, rfl⟩
theorem spec_InverseKey_c (k : Int) (w : World) : Calls Try.prog 21 #[.int .i64 k] w fun e w' => e = .returned (.tuple #[.int .i64 (invV k), .int .i64 (invE k)]) ∧ w = w' := by
  cases h1 : inB k 1 1018
  · have HV := Lib.hid (show invV k = 0 by simp [invV, h1])
    have HE := Lib.hid (show invE k = 2 by simp [invE, h1])
    go_enter Try.func21, Try.ntmps21
    go_wp2_with (go_at_call 67; refine (spec_l32Key_c _ _).mono ?_; rintro e w' ⟨rfl, rfl⟩)
    go_ret2
    exact ⟨ret_int2 HV.out.symm HE.out.symm, rfl⟩
  · have HV := Lib.hid (show invV k = invI k by simp [invV, h1])
    have HE := Lib.hid (show invE k = 0 by simp [invE, h1])
    obtain ⟨a1, a2⟩ := inB_iff.1 h1
    go_enter Try.func21, Try.ntmps21
    go_wp2_with (first | (go_at_call 67; refine (spec_l32Key_c _ _).mono ?_; rintro e w' ⟨rfl, rfl⟩) | (go_at_call 68; refine (spec_l32Inverse_c _ _ (by omega) (by omega)).mono ?_; rintro e w' ⟨rfl, rfl⟩))
    go_ret2
    exact ⟨ret_int2 HV.out.symm HE.out.symm, rfl⟩
theorem impl_CodeOf_c (k : Int) (w : World) : Calls Try.prog 18 #[.int .i64 k] w fun e w' => e = .returned (.tuple #[.int .i64 (codeV k), .int .i64 (codeE k)]) ∧ w = w' := by
  cases h1 : inB k 0 51
  · have HV := Lib.hid (show codeV k = 0 by simp [codeV, h1])
    have HE := Lib.hid (show codeE k = 2 by simp [codeE, h1])
    go_enter Try.func18, Try.ntmps18
    go_wp2_with (go_at_call 61; refine (impl_isCard_c _ _).mono ?_; rintro e w' ⟨rfl, rfl⟩)
    go_ret2
    exact ⟨ret_int2 HV.out.symm HE.out.symm, rfl⟩
  · have HV := Lib.hid (show codeV k = codeI k by simp [codeV, h1])
    have HE := Lib.hid (show codeE k = 0 by simp [codeE, h1])
    obtain ⟨a1, a2⟩ := inB_iff.1 h1
    go_enter Try.func18, Try.ntmps18
    go_wp2_with (first | (go_at_call 61; refine (impl_isCard_c _ _).mono ?_; rintro e w' ⟨rfl, rfl⟩) | (go_at_call 62; refine (impl_codeOf_c _ _ (by omega) (by omega)).mono ?_; rintro e w' ⟨rfl, rfl⟩))
    go_ret2
    exact ⟨ret_int2 HV.out.symm HE.out.symm, rfl⟩
theorem spec_CodeOf_c (k : Int) (w : World) : Calls Try.prog 17 #[.int .i64 k] w fun e w' => e = .returned (.tuple #[.int .i64 (codeV k), .int .i64 (codeE k)]) ∧ w = w' := by
  cases h1 : inB k 0 51
  · have HV := Lib.hid (show codeV k = 0 by simp [codeV, h1])
    have HE := Lib.hid (show codeE k = 2 by simp [codeE, h1])
    go_enter Try.func17, Try.ntmps17
    go_wp2_with (go_at_call 59; refine (spec_l02Card_c _ _).mono ?_; rintro e w' ⟨rfl, rfl⟩)
    go_ret2
    exact ⟨ret_int2 HV.out.symm HE.out.symm, rfl⟩
  · have HV := Lib.hid (show codeV k = codeI k by simp [codeV, h1])
    have HE := Lib.hid (show codeE k = 0 by simp [codeE, h1])
    obtain ⟨a1, a2⟩ := inB_iff.1 h1
    go_enter Try.func17, Try.ntmps17
    go_wp2_with (first | (go_at_call 59; refine (spec_l02Card_c _ _).mono ?_; rintro e w' ⟨rfl, rfl⟩) | (go_at_call 60; refine (spec_l32Code_c _ _ (by omega) (by omega)).mono ?_; rintro e w' ⟨rfl, rfl⟩))
    go_ret2
    exact ⟨ret_int2 HV.out.symm HE.out.symm, rfl⟩
end Go.Proofs.Ytiglekmlkklofaa
