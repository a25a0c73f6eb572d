/-
  The contracts of IsRatio, reduced, l01Ratio: a ratio in lowest terms, or the error 3. Conditions: the denominator is positive; both numbers are small enough for an int64.
-/
import Derived.Test.YthpgkngkmmameaaGcd
namespace Go.Proofs.Ythpgkngkmmameaa
open Go.RowKit
set_option linter.unusedVariables false

/-- Is n / d a ratio? -/
def isR (n d : Int) : Bool := inB n (-1000000000) 1000000000 && inB d 1 1000000000 && (gcdI (absI n) d == 1)
theorem isR_iff {n d : Int} : isR n d = true ↔ -1000000000 ≤ n ∧ n ≤ 1000000000 ∧ 1 ≤ d ∧ d ≤ 1000000000 ∧ gcdI (absI n) d = 1 := by
  simp [isR, inB, and_assoc]

set_option maxHeartbeats 2000000 in
theorem impl_IsRatio_c (n d : Int) (w : World) : Calls Try.prog 107 #[.agg #[.int .i64 n, .int .i64 d]] w fun e w' => e = .returned (.bool (isR n d)) ∧ Below w.heap.size w w' := by
  cases h1 : inB n (-1000000000) 1000000000
  · have HR := Lib.hid (show isR n d = false by simp [isR, h1])
    go_enter Try.func107, Try.ntmps107
    go_wp2_with fail
    go_quiet ((go_at_call 94; exact quiet_left (impl_within_c _ _ _ _)))
    go_wp2_with fail
    go_ret
    exact ⟨ret_bool HR.out.symm, below_drewN ((Below.refl _ _).alloc (Nat.le_refl _) _) _⟩
  · cases h2 : inB d 1 1000000000
    · have HR := Lib.hid (show isR n d = false by simp [isR, h2])
      go_enter Try.func107, Try.ntmps107
      go_wp2_with fail
      go_quiet ((go_at_call 94; exact quiet_left (impl_within_c _ _ _ _)))
      go_wp2_with fail
      go_ret
      exact ⟨ret_bool HR.out.symm, below_drewN ((Below.refl _ _).alloc (Nat.le_refl _) _) _⟩
    · obtain ⟨a1, a2⟩ := inB_iff.1 h1
      obtain ⟨b1, b2⟩ := inB_iff.1 h2
      have c1 := absI_nonneg n
      have c2 : absI n ≤ 1000000000 := absI_le a1 a2
      have HR := Lib.hid (show isR n d = (gcdI (absI n) d == 1) by simp [isR, h1, h2])
      go_enter Try.func107, Try.ntmps107
      go_wp2_with fail
      go_quiet ((first
        | (go_at_call 94; exact quiet_left (impl_within_c _ _ _ _))
        | (go_at_call 164; exact quiet_left (impl_absOf_c _ _ (by omega)))
        | (go_at_call 163; exact Calls.quiet_of (impl_divisorOf_c _ _ _ (by omega) (by omega) (by omega) (by omega)))))
      go_wp2_with fail
      go_ret
      exact ⟨ret_bool HR.out.symm, below_drewN ((Below.refl _ _).alloc (Nat.le_refl _) _) _⟩
set_option maxHeartbeats 2000000 in
theorem spec_IsRatio_c (n d : Int) (w : World) : Calls Try.prog 189 #[.agg #[.int .i64 n, .int .i64 d]] w fun e w' => e = .returned (.bool (isR n d)) ∧ Below w.heap.size w w' := by
  cases h1 : inB n (-1000000000) 1000000000
  · have HR := Lib.hid (show isR n d = false by simp [isR, h1])
    go_enter Try.func189, Try.ntmps189
    go_wp2_with fail
    go_quiet ((go_at_call 98; exact quiet_left (spec_l01In_c _ _ _ _)))
    go_wp2_with fail
    go_ret
    exact ⟨ret_bool HR.out.symm, below_drewN ((Below.refl _ _).alloc (Nat.le_refl _) _) _⟩
  · cases h2 : inB d 1 1000000000
    · have HR := Lib.hid (show isR n d = false by simp [isR, h2])
      go_enter Try.func189, Try.ntmps189
      go_wp2_with fail
      go_quiet ((go_at_call 98; exact quiet_left (spec_l01In_c _ _ _ _)))
      go_wp2_with fail
      go_ret
      exact ⟨ret_bool HR.out.symm, below_drewN ((Below.refl _ _).alloc (Nat.le_refl _) _) _⟩
    · obtain ⟨a1, a2⟩ := inB_iff.1 h1
      obtain ⟨b1, b2⟩ := inB_iff.1 h2
      have c1 := absI_nonneg n
      have c2 : absI n ≤ 1000000000 := absI_le a1 a2
      have HR := Lib.hid (show isR n d = (gcdI (absI n) d == 1) by simp [isR, h1, h2])
      go_enter Try.func189, Try.ntmps189
      go_wp2_with fail
      go_quiet ((first
        | (go_at_call 98; exact quiet_left (spec_l01In_c _ _ _ _))
        | (go_at_call 194; exact quiet_left (spec_l01Abs_c _ _ (by omega) (by omega)))
        | (go_at_call 193; exact quiet_left (spec_l01Gcd_c _ _ _ _ (Nat.le_refl _) (by omega) (by omega) (by omega) (by omega)))))
      go_wp2_with fail
      go_ret
      exact ⟨ret_bool HR.out.symm, below_drewN ((Below.refl _ _).alloc (Nat.le_refl _) _) _⟩

/-- The ratio of two integers in lowest terms: numerator, denominator (0 and 0 where it is too large), code. -/
def redP (num den : Int) : Int := num.tdiv (gcdI (absI num) den)
def redQ (num den : Int) : Int := den / gcdI (absI num) den
def redN (num den : Int) : Int := if isR (redP num den) (redQ num den) = true then redP num den else 0
def redD (num den : Int) : Int := if isR (redP num den) (redQ num den) = true then redQ num den else 0
def redE (num den : Int) : Int := if isR (redP num den) (redQ num den) = true then 0 else 3
/-- What a function hands back: a ratio and a code. -/
def RR (w : World) (N D E : Int) (e : Ending) (w' : World) : Prop := e = .returned (.tuple #[.agg #[.int .i64 N, .int .i64 D], .int .i64 E]) ∧ Below w.heap.size w w'
theorem RR.mk {w w' : World} {N D E N' D' E' : Int} (h1 : N' = N) (h2 : D' = D) (h3 : E' = E) (hb : Below w.heap.size w w') : RR w N D E (.returned (.tuple #[.agg #[.int .i64 N', .int .i64 D'], .int .i64 E'])) w' := ⟨by rw [h1, h2, h3], hb⟩
end Go.Proofs.Ythpgkngkmmameaa
