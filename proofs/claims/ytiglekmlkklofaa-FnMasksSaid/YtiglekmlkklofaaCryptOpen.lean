/-
  The contracts of CommitTo and OpenElement; a power of a square is a square. Conditions: none.
-/
import Derived.Test.YtiglekmlkklofaaCryptCard
namespace Go.Proofs.Ytiglekmlkklofaa
open Go.RowKit
set_option linter.unusedVariables false

/-- x to the q is 1 modulo 2039, as numbers of Nat; q kept as a variable. -/
theorem isSq_nat {x : Int} (h : isSq x = true) : 1 ≤ x ∧ x ≤ 2038 ∧ ∀ q : Nat, (1019 : Int).toNat = q → x.toNat ^ q % 2039 = 1 := by
  simp only [isSq, Bool.and_eq_true, inB, decide_eq_true_eq, beq_iff_eq] at h
  obtain ⟨⟨h1, h2⟩, h3⟩ := h
  refine ⟨h1, h2, fun q hq => ?_⟩
  unfold pw at h3
  rw [hq] at h3
  omega
theorem isSq_of {x : Int} (h1 : 1 ≤ x) (h2 : x ≤ 2038) (q : Nat) (hq : (1019 : Int).toNat = q) (h : x.toNat ^ q % 2039 = 1) : isSq x = true := by
  simp only [isSq, Bool.and_eq_true, inB, decide_eq_true_eq, beq_iff_eq]
  refine ⟨⟨h1, h2⟩, ?_⟩
  unfold pw
  rw [hq, h]
  rfl
theorem powq (x n q : Nat) (h : x ^ q % 2039 = 1) : (x ^ n) ^ q % 2039 = 1 := by
  rw [← Nat.pow_mul, Nat.mul_comm, Nat.pow_mul, Nat.pow_mod, h, Nat.one_pow]
theorem isSq_pw {x : Int} (n : Int) (h : isSq x = true) : isSq (pw x n) = true := by
  obtain ⟨h1, h2, h3⟩ := isSq_nat h
  obtain ⟨q, hq⟩ : ∃ q, (1019 : Int).toNat = q := ⟨_, rfl⟩
  have hq0 : q ≠ 0 := by omega
  have h4 := powq x.toNat n.toNat q (h3 q hq)
  generalize hm : x.toNat ^ n.toNat % 2039 = m
  have hp : pw x n = (m : Int) := by unfold pw; rw [hm]
  have hlt : m < 2039 := by rw [← hm]; exact Nat.mod_lt _ (by decide)
  have h5 : m ^ q % 2039 = 1 := by rw [← hm, ← Nat.pow_mod]; exact h4
  have h0 : m ≠ 0 := by
    rintro rfl
    rw [Nat.zero_pow (by omega)] at h5
    simp at h5
  rw [hp]
  exact isSq_of (by omega) (by omega) q hq (by rw [Int.toNat_natCast]; exact h5)

def comV (m r : Int) : Int := if inB m 0 1018 = true ∧ inB r 0 1018 = true then pw 4 m * pw 9 r % 2039 else 0
def comE (m r : Int) : Int := if inB m 0 1018 = true ∧ inB r 0 1018 = true then 0 else 2
def openX (x a b : Int) : Int := pw (pw x (invI a)) (invI b)
def openV (x a b : Int) : Int := if isSq x = true ∧ inB a 1 1018 = true ∧ inB b 1 1018 = true then cardV (openX x a b) else 0
def openE (x a b : Int) : Int := if isSq x = true ∧ inB a 1 1018 = true ∧ inB b 1 1018 = true then cardE (openX x a b) else 2
theorem openX_in {x : Int} (a b : Int) (h : isSq x = true) : inB (openX x a b) 1 2038 = true := by
  obtain ⟨h1, h2, _⟩ := isSq_nat (isSq_pw (invI b) (isSq_pw (invI a) h))
  exact inB_iff.2 ⟨h1, h2⟩

theorem impl_CommitTo_c (m r : Int) (w : World) : Calls Try.prog 26 #[.int .i64 m, .int .i64 r] w fun e w' => e = .returned (.tuple #[.int .i64 (comV m r), .int .i64 (comE m r)]) ∧ w = w' := by
  cases h1 : inB m 0 1018
  · have HV := Lib.hid (show comV m r = 0 by simp [comV, *])
    have HE := Lib.hid (show comE m r = 2 by simp [comE, *])
    go_enter Try.func26, Try.ntmps26
    go_wp2_with (go_at_call 65; refine (impl_within_c _ _ _ _).mono ?_; rintro e w' ⟨rfl, rfl⟩)
    go_ret2
    exact ⟨ret_int2 HV.out.symm HE.out.symm, rfl⟩
  · cases h2 : inB r 0 1018
    · have HV := Lib.hid (show comV m r = 0 by simp [comV, *])
      have HE := Lib.hid (show comE m r = 2 by simp [comE, *])
      go_enter Try.func26, Try.ntmps26
      go_wp2_with (go_at_call 65; refine (impl_within_c _ _ _ _).mono ?_; rintro e w' ⟨rfl, rfl⟩)
      go_ret2
      exact ⟨ret_int2 HV.out.symm HE.out.symm, rfl⟩
    · obtain ⟨a1, a2⟩ := inB_iff.1 h1
      obtain ⟨b1, b2⟩ := inB_iff.1 h2
      obtain ⟨p1, p2⟩ := pw_range 4 m
      obtain ⟨q1, q2⟩ := pw_range 9 r
      have m1 : 0 ≤ pw 4 m * pw 9 r := Int.mul_nonneg p1 q1
      have m2 : pw 4 m * pw 9 r ≤ 2038 * 2038 := Int.mul_le_mul p2 q2 q1 (by omega)
      have HV := Lib.hid (show comV m r = pw 4 m * pw 9 r % 2039 by unfold comV; rw [if_pos ⟨h1, h2⟩])
      have HE := Lib.hid (show comE m r = 0 by unfold comE; rw [if_pos ⟨h1, h2⟩])
      go_enter Try.func26, Try.ntmps26
      go_wp2_with (first | (go_at_call 65; refine (impl_within_c _ _ _ _).mono ?_; rintro e w' ⟨rfl, rfl⟩) | (go_at_call 66; refine (impl_powerModulo_c _ _ _ (by omega) (by omega) (by omega) (by omega)).mono ?_; rintro e w' ⟨rfl, rfl⟩))
      go_ret2
      exact ⟨ret_int2 HV.out.symm HE.out.symm, rfl⟩
theorem spec_CommitTo_c (m r : Int) (w : World) : Calls Try.prog 25 #[.int .i64 m, .int .i64 r] w fun e w' => e = .returned (.tuple #[.int .i64 (comV m r), .int .i64 (comE m r)]) ∧ w = w' := by
  cases h1 : inB m 0 1018
  · have HV := Lib.hid (show comV m r = 0 by simp [comV, *])
    have HE := Lib.hid (show comE m r = 2 by simp [comE, *])
    go_enter Try.func25, Try.ntmps25
    go_wp2_with (go_at_call 63; refine (spec_l01In_c _ _ _ _).mono ?_; rintro e w' ⟨rfl, rfl⟩)
    go_ret2
    exact ⟨ret_int2 HV.out.symm HE.out.symm, rfl⟩
  · cases h2 : inB r 0 1018
    · have HV := Lib.hid (show comV m r = 0 by simp [comV, *])
      have HE := Lib.hid (show comE m r = 2 by simp [comE, *])
      go_enter Try.func25, Try.ntmps25
      go_wp2_with (go_at_call 63; refine (spec_l01In_c _ _ _ _).mono ?_; rintro e w' ⟨rfl, rfl⟩)
      go_ret2
      exact ⟨ret_int2 HV.out.symm HE.out.symm, rfl⟩
    · obtain ⟨a1, a2⟩ := inB_iff.1 h1
      obtain ⟨b1, b2⟩ := inB_iff.1 h2
      obtain ⟨p1, p2⟩ := pw_range 4 m
      obtain ⟨q1, q2⟩ := pw_range 9 r
      have m1 : 0 ≤ pw 4 m * pw 9 r := Int.mul_nonneg p1 q1
      have m2 : pw 4 m * pw 9 r ≤ 2038 * 2038 := Int.mul_le_mul p2 q2 q1 (by omega)
      have HV := Lib.hid (show comV m r = pw 4 m * pw 9 r % 2039 by unfold comV; rw [if_pos ⟨h1, h2⟩])
      have HE := Lib.hid (show comE m r = 0 by unfold comE; rw [if_pos ⟨h1, h2⟩])
      go_enter Try.func25, Try.ntmps25
      go_wp2_with (first | (go_at_call 63; refine (spec_l01In_c _ _ _ _).mono ?_; rintro e w' ⟨rfl, rfl⟩) | (go_at_call 64; refine (spec_l32Power_c _ _ _ (by omega) (by omega) (by omega) (by omega)).mono ?_; rintro e w' ⟨rfl, rfl⟩))
      go_ret2
      exact ⟨ret_int2 HV.out.symm HE.out.symm, rfl⟩
theorem impl_OpenElement_c (x a b : Int) (w : World) : Calls Try.prog 30 #[.int .i64 x, .int .i64 a, .int .i64 b] w fun e w' => e = .returned (.tuple #[.int .i64 (openV x a b), .int .i64 (openE x a b)]) ∧ w = w' := by
  cases h1 : isSq x
  · have HV := Lib.hid (show openV x a b = 0 by simp [openV, *])
    have HE := Lib.hid (show openE x a b = 2 by simp [openE, *])
    go_enter Try.func30, Try.ntmps30
    go_wp2_with (first | (go_at_call 20; refine (impl_IsSquare_c _ _).mono ?_; rintro e w' ⟨rfl, rfl⟩) | (go_at_call 69; refine (impl_isKey_c _ _).mono ?_; rintro e w' ⟨rfl, rfl⟩))
    go_ret2
    exact ⟨ret_int2 HV.out.symm HE.out.symm, rfl⟩
  · cases h2 : inB a 1 1018
    · have HV := Lib.hid (show openV x a b = 0 by simp [openV, *])
      have HE := Lib.hid (show openE x a b = 2 by simp [openE, *])
      go_enter Try.func30, Try.ntmps30
      go_wp2_with (first | (go_at_call 20; refine (impl_IsSquare_c _ _).mono ?_; rintro e w' ⟨rfl, rfl⟩) | (go_at_call 69; refine (impl_isKey_c _ _).mono ?_; rintro e w' ⟨rfl, rfl⟩))
      go_ret2
      exact ⟨ret_int2 HV.out.symm HE.out.symm, rfl⟩
    · cases h3 : inB b 1 1018
      · have HV := Lib.hid (show openV x a b = 0 by simp [openV, *])
        have HE := Lib.hid (show openE x a b = 2 by simp [openE, *])
        go_enter Try.func30, Try.ntmps30
        go_wp2_with (first | (go_at_call 20; refine (impl_IsSquare_c _ _).mono ?_; rintro e w' ⟨rfl, rfl⟩) | (go_at_call 69; refine (impl_isKey_c _ _).mono ?_; rintro e w' ⟨rfl, rfl⟩))
        go_ret2
        exact ⟨ret_int2 HV.out.symm HE.out.symm, rfl⟩
      · obtain ⟨a1, a2⟩ := inB_iff.1 h2
        obtain ⟨b1, b2⟩ := inB_iff.1 h3
        obtain ⟨x1, x2, _⟩ := isSq_nat h1
        obtain ⟨p1, p2, _⟩ := invI_pos a a1 a2
        obtain ⟨q1, q2, _⟩ := invI_pos b b1 b2
        obtain ⟨r1, r2⟩ := pw_range x (invI a)
        have HV := Lib.hid (show openV x a b = cardV (openX x a b) by unfold openV; rw [if_pos ⟨h1, h2, h3⟩])
        have HE := Lib.hid (show openE x a b = cardE (openX x a b) by unfold openE; rw [if_pos ⟨h1, h2, h3⟩])
        go_enter Try.func30, Try.ntmps30
        go_wp2_with (first | (go_at_call 20; refine (impl_IsSquare_c _ _).mono ?_; rintro e w' ⟨rfl, rfl⟩) | (go_at_call 69; refine (impl_isKey_c _ _).mono ?_; rintro e w' ⟨rfl, rfl⟩) | (go_at_call 70; refine (impl_inverseKey_c _ _ (by omega) (by omega)).mono ?_; rintro e w' ⟨rfl, rfl⟩) | (go_at_call 66; refine (impl_powerModulo_c _ _ _ (by omega) (by omega) (by omega) (by omega)).mono ?_; rintro e w' ⟨rfl, rfl⟩) | (go_at_call 24; refine (impl_CardOfCode_c _ _).mono ?_; rintro e w' ⟨rfl, rfl⟩))
        go_ret2
        exact ⟨ret_int2 HV.out.symm HE.out.symm, rfl⟩
theorem spec_OpenElement_c (x a b : Int) (w : World) : Calls Try.prog 29 #[.int .i64 x, .int .i64 a, .int .i64 b] w fun e w' => e = .returned (.tuple #[.int .i64 (openV x a b), .int .i64 (openE x a b)]) ∧ w = w' := by
  cases h1 : isSq x
  · have HV := Lib.hid (show openV x a b = 0 by simp [openV, *])
    have HE := Lib.hid (show openE x a b = 2 by simp [openE, *])
    go_enter Try.func29, Try.ntmps29
    go_wp2_with (first | (go_at_call 19; refine (spec_IsSquare_c _ _).mono ?_; rintro e w' ⟨rfl, rfl⟩) | (go_at_call 67; refine (spec_l32Key_c _ _).mono ?_; rintro e w' ⟨rfl, rfl⟩))
    go_ret2
    exact ⟨ret_int2 HV.out.symm HE.out.symm, rfl⟩
  · cases h2 : inB a 1 1018
    · have HV := Lib.hid (show openV x a b = 0 by simp [openV, *])
      have HE := Lib.hid (show openE x a b = 2 by simp [openE, *])
      go_enter Try.func29, Try.ntmps29
      go_wp2_with (first | (go_at_call 19; refine (spec_IsSquare_c _ _).mono ?_; rintro e w' ⟨rfl, rfl⟩) | (go_at_call 67; refine (spec_l32Key_c _ _).mono ?_; rintro e w' ⟨rfl, rfl⟩))
      go_ret2
      exact ⟨ret_int2 HV.out.symm HE.out.symm, rfl⟩
    · cases h3 : inB b 1 1018
      · have HV := Lib.hid (show openV x a b = 0 by simp [openV, *])
        have HE := Lib.hid (show openE x a b = 2 by simp [openE, *])
        go_enter Try.func29, Try.ntmps29
        go_wp2_with (first | (go_at_call 19; refine (spec_IsSquare_c _ _).mono ?_; rintro e w' ⟨rfl, rfl⟩) | (go_at_call 67; refine (spec_l32Key_c _ _).mono ?_; rintro e w' ⟨rfl, rfl⟩))
        go_ret2
        exact ⟨ret_int2 HV.out.symm HE.out.symm, rfl⟩
      · obtain ⟨a1, a2⟩ := inB_iff.1 h2
        obtain ⟨b1, b2⟩ := inB_iff.1 h3
        obtain ⟨x1, x2, _⟩ := isSq_nat h1
        obtain ⟨p1, p2, _⟩ := invI_pos a a1 a2
        obtain ⟨q1, q2, _⟩ := invI_pos b b1 b2
        obtain ⟨r1, r2⟩ := pw_range x (invI a)
        have hin := openX_in a b h1
        have hcr := cardI_range (openX x a b)
        by_cases hn : cardI (openX x a b) < 0
        · have HV := Lib.hid (show openV x a b = 0 by unfold openV; rw [if_pos ⟨h1, h2, h3⟩]; unfold cardV; rw [if_neg (fun h => h.2 hn)])
          have HE := Lib.hid (show openE x a b = 4 by unfold openE; rw [if_pos ⟨h1, h2, h3⟩]; unfold cardE; rw [if_pos hin, if_pos hn])
          unfold openX at hn hcr
          clear hin
          go_enter Try.func29, Try.ntmps29
          go_wp2_with (first | (go_at_call 19; refine (spec_IsSquare_c _ _).mono ?_; rintro e w' ⟨rfl, rfl⟩) | (go_at_call 67; refine (spec_l32Key_c _ _).mono ?_; rintro e w' ⟨rfl, rfl⟩) | (go_at_call 68; refine (spec_l32Inverse_c _ _ (by omega) (by omega)).mono ?_; rintro e w' ⟨rfl, rfl⟩) | (go_at_call 64; refine (spec_l32Power_c _ _ _ (by omega) (by omega) (by omega) (by omega)).mono ?_; rintro e w' ⟨rfl, rfl⟩) | (go_at_call 71; refine (spec_l32Card_c _ _).mono ?_; rintro e w' ⟨rfl, rfl⟩))
          go_ret2
          exact ⟨ret_int2 HV.out.symm HE.out.symm, rfl⟩
        · have HV := Lib.hid (show openV x a b = cardI (openX x a b) by unfold openV; rw [if_pos ⟨h1, h2, h3⟩]; unfold cardV; rw [if_pos ⟨hin, hn⟩])
          have HE := Lib.hid (show openE x a b = 0 by unfold openE; rw [if_pos ⟨h1, h2, h3⟩]; unfold cardE; rw [if_pos hin, if_neg hn])
          unfold openX at hn hcr
          clear hin
          go_enter Try.func29, Try.ntmps29
          go_wp2_with (first | (go_at_call 19; refine (spec_IsSquare_c _ _).mono ?_; rintro e w' ⟨rfl, rfl⟩) | (go_at_call 67; refine (spec_l32Key_c _ _).mono ?_; rintro e w' ⟨rfl, rfl⟩) | (go_at_call 68; refine (spec_l32Inverse_c _ _ (by omega) (by omega)).mono ?_; rintro e w' ⟨rfl, rfl⟩) | (go_at_call 64; refine (spec_l32Power_c _ _ _ (by omega) (by omega) (by omega) (by omega)).mono ?_; rintro e w' ⟨rfl, rfl⟩) | (go_at_call 71; refine (spec_l32Card_c _ _).mono ?_; rintro e w' ⟨rfl, rfl⟩))
          go_ret2
          exact ⟨ret_int2 HV.out.symm HE.out.symm, rfl⟩
end Go.Proofs.Ytiglekmlkklofaa
