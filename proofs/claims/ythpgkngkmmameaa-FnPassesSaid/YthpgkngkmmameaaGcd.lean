/-
  The contracts of divisorOf, l01Gcd, absOf, l01Abs: the greatest common divisor. Conditions: numbers that are not negative, and small enough.
-/
import Derived.Test.YthpgkngkmmameaaLaw
import Derived.Test.YthpgkngkmmameaaCardOne
import Derived.Test.YthpgkngkmmameaaQuiet
namespace Go.Proofs.Ythpgkngkmmameaa
open Go.RowKit
set_option linter.unusedVariables false

def gcdI (a b : Int) : Int := ((Nat.gcd a.toNat b.toNat : Nat) : Int)
def absI (n : Int) : Int := ((n.natAbs : Nat) : Int)
theorem absI_nonneg (n : Int) : 0 ≤ absI n := by unfold absI; omega
theorem absI_le {n b : Int} (h1 : -b ≤ n) (h2 : n ≤ b) : absI n ≤ b := by unfold absI; omega
theorem gcd_step {a b : Int} (ha : 0 ≤ a) (hb : 0 < b) : gcdI b (a % b) = gcdI a b := by
  obtain ⟨a, rfl⟩ := Int.eq_ofNat_of_zero_le ha
  obtain ⟨b, rfl⟩ := Int.eq_ofNat_of_zero_le (Int.le_of_lt hb)
  have h : ((a : Int) % (b : Int)).toNat = a % b := by rw [← Int.natCast_emod, Int.toNat_natCast]
  unfold gcdI
  rw [h, Int.toNat_natCast, Int.toNat_natCast, Nat.gcd_comm b, ← Nat.gcd_rec, Nat.gcd_comm]
theorem gcd_zero {a : Int} (ha : 0 ≤ a) : gcdI a 0 = a := by
  unfold gcdI
  simp
  omega
theorem gcd_pos {a b : Int} (hb : 0 < b) : 1 ≤ gcdI a b := by
  unfold gcdI
  have := Nat.gcd_pos_of_pos_right a.toNat (show 0 < b.toNat by omega)
  omega
theorem gcd_le {a b : Int} (hb : 0 < b) : gcdI a b ≤ b := by
  unfold gcdI
  have := Nat.gcd_le_right a.toNat (show 0 < b.toNat by omega)
  omega

theorem impl_absOf_c (n : Int) (w : World) (h1 : -9000000000000000000 ≤ n) : Calls Try.prog 164 #[.int .i64 n] w fun e w' => e = .returned (.int .i64 (absI n)) ∧ w = w' := by
  by_cases hn : n < 0
  · have HA := Lib.hid (show absI n = -n by unfold absI; omega)
    go_enter Try.func164, Try.ntmps164
    go_wp2_with fail
    go_ret
    exact ⟨ret_int HA.out.symm, rfl⟩
  · have HA := Lib.hid (show absI n = n by unfold absI; omega)
    go_enter Try.func164, Try.ntmps164
    go_wp2_with fail
    go_ret
    exact ⟨ret_int HA.out.symm, rfl⟩
theorem spec_l01Abs_c (n : Int) (w : World) (h1 : -9000000000000000000 ≤ n) (h2 : n ≤ 9000000000000000000) : Calls Try.prog 194 #[.int .i64 n] w fun e w' => e = .returned (.int .i64 (absI n)) ∧ w = w' := by
  by_cases hn : n < 0
  · have HA := Lib.hid (show absI n = -n by unfold absI; omega)
    go_enter Try.func194, Try.ntmps194
    go_wp2_with fail
    go_ret
    exact ⟨ret_int HA.out.symm, rfl⟩
  · have HA := Lib.hid (show absI n = n by unfold absI; omega)
    go_enter Try.func194, Try.ntmps194
    go_wp2_with fail
    go_ret
    exact ⟨ret_int HA.out.symm, rfl⟩
theorem impl_divisorOf_c (a b : Int) (w : World) (ha : 0 ≤ a) (hb : 0 ≤ b) (hb1 : b ≤ 9000000000000000000) (ha1 : a ≤ 9000000000000000000) :
    Calls Try.prog 163 #[.int .i64 a, .int .i64 b] w fun e w' => e = .returned (.int .i64 (gcdI a b)) ∧ ∃ q, w' = w.drewN q := by
  go_enter Try.func163, Try.ntmps163
  go_wp2_with fail
  go_loopw [0, 1] (fun u v wr => ∃ x y : Int, u = .int .i64 x ∧ v = .int .i64 y ∧ 0 ≤ x ∧ 0 ≤ y ∧ x ≤ 9000000000000000000 ∧ y ≤ 9000000000000000000 ∧ gcdI x y = gcdI a b ∧ ∃ q, wr = w.drewN q) (fun _ v _ => (intOf v).toNat)
  case atStart => exact ⟨a, b, rfl, rfl, ha, hb, ha1, hb1, rfl, 0, rfl⟩
  case round =>
    obtain ⟨x, y, rfl, rfl, hx, hy, hx1, hy1, hg, q, rfl⟩ := hrel
    have HG := Lib.hid hg
    clear hg
    by_cases hb0 : 0 < y
    · have h1 : 0 ≤ x % y := Int.emod_nonneg x (by omega)
      have h2 : x % y < y := Int.emod_lt_of_pos x hb0
      go_wp2_with fail
      go_quiet (fail)
      go_wp2_with fail
      go_roundw
      case rel => exact ⟨_, _, rfl, rfl, by omega, by omega, by omega, by omega, (gcd_step hx hb0).trans HG.out, q + nq, by rw [World.drewN_drewN]⟩
      case measure => simp [intOf]; omega
    · have h0 : y = 0 := by omega
      subst h0
      go_wp2_with fail
      go_ret
      exact ⟨ret_int ((gcd_zero hx).symm.trans HG.out), _, rfl⟩
theorem spec_l01Gcd_c (k : Nat) : ∀ (a b : Int) (w : World), b.toNat ≤ k → 0 ≤ a → 0 ≤ b → b ≤ 9000000000000000000 → a ≤ 9000000000000000000 →
    Calls Try.prog 193 #[.int .i64 a, .int .i64 b] w fun e w' => e = .returned (.int .i64 (gcdI a b)) ∧ w = w' := by
  induction k with
  | zero =>
    intro a b w hk ha hb hb1 ha1
    have h0 : b = 0 := by omega
    subst h0
    have HG := Lib.hid (gcd_zero ha)
    go_enter Try.func193, Try.ntmps193
    go_wp2_with fail
    go_ret
    exact ⟨ret_int HG.out.symm, rfl⟩
  | succ k ih =>
    intro a b w hk ha hb hb1 ha1
    by_cases hb0 : 0 < b
    · have h1 : 0 ≤ a % b := Int.emod_nonneg a (by omega)
      have h2 : a % b < b := Int.emod_lt_of_pos a hb0
      have HG := Lib.hid (gcd_step ha hb0)
      have hne : (b == 0) = false := by simp; omega
      have IH := Lib.hid ih
      clear ih
      go_enter Try.func193, Try.ntmps193
      go_wp2_with (go_at_call 193; refine (IH.out _ _ _ (by omega) (by omega) (by omega) (by omega) (by omega)).mono ?_; rintro e w' ⟨rfl, rfl⟩)
      go_ret
      exact ⟨ret_int HG.out, rfl⟩
    · have h0 : b = 0 := by omega
      subst h0
      have HG := Lib.hid (gcd_zero ha)
      clear ih
      go_enter Try.func193, Try.ntmps193
      go_wp2_with fail
      go_ret
      exact ⟨ret_int HG.out.symm, rfl⟩
end Go.Proofs.Ythpgkngkmmameaa
