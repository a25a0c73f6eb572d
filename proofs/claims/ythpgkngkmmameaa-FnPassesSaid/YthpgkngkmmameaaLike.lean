/-
  The contract of the laws' likeInts. Conditions: both lists are the same, at most 1048576 elements.
-/
import Derived.Test.YthpgkngkmmameaaMem
import Derived.Test.YthpgkngkmmameaaPlainList
namespace Go.Proofs.Ythpgkngkmmameaa
open Go.RowKit
set_option linter.unusedVariables false
theorem laws_likeInts_c (A B : Option Addr) (n m c d : Nat) (zs : List Int) (w : World) (hn : zs.length = n) (hn' : zs.length = m) (hm : n ≤ 1048576) (hr : RI w A zs) (hr' : RI w B zs) :
    Calls Try.prog 31 #[.slice A n c, .slice B m d] w fun e w' => e = .returned (.bool true) ∧ Below w.heap.size w w' := by
  subst hn
  subst hn'
  rcases hr.split with h0 | ⟨b, off, rfl, hb, hc⟩
  · go_enter Try.func31, Try.ntmps31
    go_wp2
    go_loop [5] (fun i => ∃ k : Nat, i = .int .i64 k ∧ k ≤ zs.length) (fun i => zs.length - (intOf i).toNat)
    case atStart => exact ⟨0, rfl, Nat.zero_le _⟩
    case round =>
      obtain ⟨k, rfl, hk⟩ := hrel
      have hge : ¬ k < zs.length := by omega
      go_wp2
      go_ret
      exact ⟨rfl, Below.refl _ _⟩
  · rcases hr'.split with h0 | ⟨b', off', rfl, hb', hc'⟩
    · go_enter Try.func31, Try.ntmps31
      go_wp2
      go_loop [5] (fun i => ∃ k : Nat, i = .int .i64 k ∧ k ≤ zs.length) (fun i => zs.length - (intOf i).toNat)
      case atStart => exact ⟨0, rfl, Nat.zero_le _⟩
      case round =>
        obtain ⟨k, rfl, hk⟩ := hrel
        have hge : ¬ k < zs.length := by omega
        go_wp2
        go_ret
        exact ⟨rfl, Below.refl _ _⟩
    · go_enter Try.func31, Try.ntmps31
      go_wp2
      go_loopw [5] (fun i wr => ∃ k : Nat, i = .int .i64 k ∧ k ≤ zs.length ∧ ∃ q, wr = w.drewN q) (fun i _ => zs.length - (intOf i).toNat)
      case atStart => exact ⟨0, rfl, Nat.zero_le _, 0, rfl⟩
      case round =>
        obtain ⟨k, rfl, hk, q, rfl⟩ := hrel
        by_cases hlt : k < zs.length
        · obtain ⟨x, hx⟩ := get_some hlt
          have hcx := hc.out k x hx
          have hcx' := hc'.out k x hx
          clear hx
          go_wp2
          go_quiet (fail)
          go_wp2
          go_roundw
          case rel => exact ⟨k + 1, by go_num, by omega, _, rfl⟩
          case measure => simp [intOf]; omega
        · go_wp2
          go_ret
          exact ⟨rfl, below_drewN (Below.refl _ _) _⟩

end Go.Proofs.Ythpgkngkmmameaa
