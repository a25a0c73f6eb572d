/-
  The contracts of CommitTo and OpenElement; a power of a square is a square. Conditions: none.
-/
import Derived.Test.YthpgkngkmmameaaCryptCard
namespace Go.Proofs.Ythpgkngkmmameaa
open Go.RowKit
set_option linter.unusedVariables false

/-- x to the q is 1 modulo 2039, as numbers of Nat; q kept as a variable. -/
theorem isSq_nat {x : Int} (h : isSq x = true) : 1 ≤ x ∧ x ≤ 2038 ∧ ∀ q : Nat, (1019 : Int).toNat = q → x.toNat ^ q % 2039 = 1 := by
  simp only [isSq, Bool.and_eq_true, inB, decide_eq_true_eq, beq_iff_eq] at h
  obtain ⟨⟨h1, h2⟩, h3⟩ := h
  refine ⟨h1, h2, fun q hq => ?_⟩
  unfold pw at h3
  rw [hq] at h3
  omega
theorem isSq_of {x : Int} (h1 : 1 ≤ x) (h2 : x ≤ 2038) (q : Nat) (hq : (1019 : Int).toNat = q) (h : x.toNat ^ q % 2039 = 1) : isSq x = true := by
  simp only [isSq, Bool.and_eq_true, inB, decide_eq_true_eq, beq_iff_eq]
  refine ⟨⟨h1, h2⟩, ?_⟩
  unfold pw
  rw [hq, h]
  rfl
theorem powq (x n q : Nat) (h : x ^ q % 2039 = 1) : (x ^ n) ^ q % 2039 = 1 := by
  rw [← Nat.pow_mul, Nat.mul_comm, Nat.pow_mul, Nat.pow_mod, h, Nat.one_pow]
theorem isSq_pw {x : Int} (n : Int) (h : isSq x = true) : isSq (pw x n) = true := by
  obtain ⟨h1, h2, h3⟩ := isSq_nat h
  obtain ⟨q, hq⟩ : ∃ q, (1019 : Int).toNat = q := ⟨_, rfl⟩
  have hq0 : q ≠ 0 := by omega
  have h4 := powq x.toNat n.toNat q (h3 q hq)
  generalize hm : x.toNat ^ n.toNat % 2039 = m
  have hp : pw x n = (m : Int) := by unfold pw; rw [hm]
  have hlt : m < 2039 := by rw [← hm]; exact Nat.mod_lt _ (by decide)
  have h5 : m ^ q % 2039 = 1 := by rw [← hm, ← Nat.pow_mod]; exact h4
  have h0 : m ≠ 0 := by
    rintro rfl
    rw [Nat.zero_pow (by omega)] at h5
    simp at h5
  rw [hp]
  exact isSq_of (by omega) (by omega) q hq (by rw [Int.toNat_natCast]; exact h5)

def comV (m r : Int) : Int := if inB m 0 1018 = true ∧ inB r 0 1018 = true then pw 4 m * pw 9 r % 2039 else 0
def comE (m r : Int) : Int := if inB m 0 1018 = true ∧ inB r 0 1018 = true then 0 else 2
def openX (x a b : Int) : Int := pw (pw x (invI a)) (invI b)
def openV (x a b : Int) : Int := if isSq x = true ∧ inB a 1 1018 = true ∧ inB b 1 1018 = true then cardV (openX x a b) else 0
def openE (x a b : Int) : Int := if isSq x = true ∧ inB a 1 1018 = true ∧ inB b 1 1018 = true then cardE (openX x a b) else 2
theorem openX_in {x : Int} (a b : Int) (h : isSq x = true) : inB (openX x a b) 1 2038 = true := by
  obtain ⟨h1, h2, _⟩ := isSq_nat (isSq_pw (invI b) (isSq_pw (invI a) h))
  exact inB_iff.2 ⟨h1, h2⟩

theorem impl_OpenElement_c (x a b : Int) (w : World) : Calls Try.prog 82 #[.int .i64 x, .int .i64 a, .int .i64 b] w fun e w' => e = .returned (.tuple #[.int .i64 (openV x a b), .int .i64 (openE x a b)]) ∧ w = w' := by
  cases h1 : isSq x
  · have HV := Lib.hid (show openV x a b = 0 by simp [openV, *])
    have HE := Lib.hid (show openE x a b = 2 by simp [openE, *])
    go_enter Try.func82, Try.ntmps82
    go_wp2_with (first | (go_at_call 139; refine (impl_IsSquare_c _ _).mono ?_; rintro e w' ⟨rfl, rfl⟩) | (go_at_call 122; refine (impl_isKey_c _ _).mono ?_; rintro e w' ⟨rfl, rfl⟩))
    go_ret2
    exact ⟨ret_int2 HV.out.symm HE.out.symm, rfl⟩
  · cases h2 : inB a 1 1018
    · have HV := Lib.hid (show openV x a b = 0 by simp [openV, *])
      have HE := Lib.hid (show openE x a b = 2 by simp [openE, *])
      go_enter Try.func82, Try.ntmps82
      go_wp2_with (first | (go_at_call 139; refine (impl_IsSquare_c _ _).mono ?_; rintro e w' ⟨rfl, rfl⟩) | (go_at_call 122; refine (impl_isKey_c _ _).mono ?_; rintro e w' ⟨rfl, rfl⟩))
      go_ret2
      exact ⟨ret_int2 HV.out.symm HE.out.symm, rfl⟩
    · cases h3 : inB b 1 1018
      · have HV := Lib.hid (show openV x a b = 0 by simp [openV, *])
        have HE := Lib.hid (show openE x a b = 2 by simp [openE, *])
        go_enter Try.func82, Try.ntmps82
        go_wp2_with (first | (go_at_call 139; refine (impl_IsSquare_c _ _).mono ?_; rintro e w' ⟨rfl, rfl⟩) | (go_at_call 122; refine (impl_isKey_c _ _).mono ?_; rintro e w' ⟨rfl, rfl⟩))
        go_ret2
        exact ⟨ret_int2 HV.out.symm HE.out.symm, rfl⟩
      · obtain ⟨a1, a2⟩ := inB_iff.1 h2
        obtain ⟨b1, b2⟩ := inB_iff.1 h3
        obtain ⟨x1, x2, _⟩ := isSq_nat h1
        obtain ⟨p1, p2, _⟩ := invI_pos a a1 a2
        obtain ⟨q1, q2, _⟩ := invI_pos b b1 b2
        obtain ⟨r1, r2⟩ := pw_range x (invI a)
        have HV := Lib.hid (show openV x a b = cardV (openX x a b) by unfold openV; rw [if_pos ⟨h1, h2, h3⟩])
        have HE := Lib.hid (show openE x a b = cardE (openX x a b) by unfold openE; rw [if_pos ⟨h1, h2, h3⟩])
        go_enter Try.func82, Try.ntmps82
        go_wp2_with (first | (go_at_call 139; refine (impl_IsSquare_c _ _).mono ?_; rintro e w' ⟨rfl, rfl⟩) | (go_at_call 122; refine (impl_isKey_c _ _).mono ?_; rintro e w' ⟨rfl, rfl⟩) | (go_at_call 142; refine (impl_inverseKey_c _ _ (by omega) (by omega)).mono ?_; rintro e w' ⟨rfl, rfl⟩) | (go_at_call 141; refine (impl_powerModulo_c _ _ _ (by omega) (by omega) (by omega) (by omega)).mono ?_; rintro e w' ⟨rfl, rfl⟩) | (go_at_call 140; refine (impl_CardOfCode_c _ _).mono ?_; rintro e w' ⟨rfl, rfl⟩))
        go_ret2
        exact ⟨ret_int2 HV.out.symm HE.out.symm, rfl⟩
end Go.Proofs.Ythpgkngkmmameaa
