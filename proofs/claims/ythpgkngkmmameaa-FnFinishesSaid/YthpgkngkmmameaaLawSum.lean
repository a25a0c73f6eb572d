/-
  The contract of the laws' own sum. Conditions: numbers of at most 4000000000 in size.
-/
import Derived.Test.YthpgkngkmmameaaSums
namespace Go.Proofs.Ythpgkngkmmameaa
open Go.RowKit
set_option linter.unusedVariables false
theorem laws_sum_c (A : Option Addr) (n c : Nat) (zs : List Int) (w : World) (hn : zs.length = n) (hm : n ≤ 1048576) (hr : RI w A zs) (hz : Hid (∀ x ∈ zs, -4000000000 ≤ x ∧ x ≤ 4000000000)) :
    Calls Try.prog 32 #[.slice A n c] w fun e w' => e = .returned (.int .i64 (sumL zs)) ∧ w = w' := by
  subst hn
  rcases hr.split with h0 | ⟨b, off, rfl, hb, hc⟩
  all_goals
    go_enter Try.func32, Try.ntmps32
    go_wp2_with fail
    go_loop [3, 4] (fun s i => ∃ k : Nat, s = .int .i64 (sumL (zs.take k)) ∧ i = .int .i64 k ∧ k ≤ zs.length) (fun _ i => zs.length - (intOf i).toNat)
    case atStart => exact ⟨0, rfl, rfl, Nat.zero_le _⟩
    case round =>
      obtain ⟨k, rfl, rfl, hk⟩ := hrel
      by_cases hlt : k < zs.length
      · first
          | (exfalso; omega; done)
          | (obtain ⟨x, hx⟩ := get_some hlt
             have hcx := hc.out k x hx
             obtain ⟨x0, x1⟩ := hz.out x (List.mem_of_getElem? hx)
             obtain ⟨s0, s1⟩ := sumL_bound (B := 4000000000) (by omega) hz.out k
             have HS := Lib.hid (sumL_step hx)
             clear hx
             go_wp2_with fail
             go_round
             case rel => exact ⟨k + 1, by rw [HS.out], by go_num, by omega⟩
             case measure => simp [intOf]; omega)
      · have HS := Lib.hid (sumL_done hlt)
        go_wp2_with fail
        go_ret
        exact ⟨ret_int HS.out, rfl⟩
end Go.Proofs.Ythpgkngkmmameaa
