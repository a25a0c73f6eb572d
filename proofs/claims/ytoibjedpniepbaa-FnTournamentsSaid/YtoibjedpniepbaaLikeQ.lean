/-
  The contract of the laws' likeRatios. Conditions: both lists are the same, at most 1048576 elements.
-/
import Derived.Test.YtoibjedpniepbaaRats
namespace Go.Proofs.Ytoibjedpniepbaa
open Go.RowKit
set_option linter.unusedVariables false
set_option maxRecDepth 100000 in
theorem laws_likeRatios_c (A B : Option Addr) (n m c d : Nat) (qs : List (Int × Int)) (w : World) (hn : qs.length = n) (hn' : qs.length = m) (hm : n ≤ 1048576) (hr : RQ w A qs) (hr' : RQ w B qs) :
    Calls Try.prog 45 #[.slice A n c, .slice B m d] w fun e w' => e = .returned (.bool true) ∧ Below w.heap.size w w' := by
  subst hn
  subst hn'
  rcases hr.split with h0 | ⟨b, rfl, hb, hc⟩
  · go_enter Try.func45, Try.ntmps45
    go_wp2
    go_loop [5] (fun i => ∃ k : Nat, i = .int .i64 k ∧ k ≤ qs.length) (fun i => qs.length - (intOf i).toNat)
    case atStart => exact ⟨0, rfl, Nat.zero_le _⟩
    case round =>
      obtain ⟨k, rfl, hk⟩ := hrel
      have hge : ¬ k < qs.length := by omega
      go_wp2
      go_ret
      exact ⟨rfl, Below.refl _ _⟩
  · rcases hr'.split with h0 | ⟨b', rfl, hb', hc'⟩
    · go_enter Try.func45, Try.ntmps45
      go_wp2
      go_loop [5] (fun i => ∃ k : Nat, i = .int .i64 k ∧ k ≤ qs.length) (fun i => qs.length - (intOf i).toNat)
      case atStart => exact ⟨0, rfl, Nat.zero_le _⟩
      case round =>
        obtain ⟨k, rfl, hk⟩ := hrel
        have hge : ¬ k < qs.length := by omega
        go_wp2
        go_ret
        exact ⟨rfl, Below.refl _ _⟩
    · go_enter Try.func45, Try.ntmps45
      go_wp2
      go_loopw [5] (fun i wr => ∃ k : Nat, i = .int .i64 k ∧ k ≤ qs.length ∧ Hid (Below w.heap.size w wr)) (fun i _ => qs.length - (intOf i).toNat)
      case atStart => exact ⟨0, rfl, Nat.zero_le _, Lib.hid (Below.refl _ _)⟩
      case round =>
        obtain ⟨k, rfl, hk, hbw⟩ := hrel
        by_cases hlt : k < qs.length
        · obtain ⟨x, y, hx⟩ := get_q hlt
          obtain ⟨p0, p1⟩ := hc.out k x y hx
          obtain ⟨p2, p3⟩ := hc'.out k x y hx
          have c0 := (hbw.out.cell (p := ⟨b, k * 2, none⟩) hb).trans p0
          have c1 := (hbw.out.cell (p := ⟨b, k * 2 + 1, none⟩) hb).trans p1
          have c2 := (hbw.out.cell (p := ⟨b', k * 2, none⟩) hb').trans p2
          have c3 := (hbw.out.cell (p := ⟨b', k * 2 + 1, none⟩) hb').trans p3
          have i1 : (k : Int) < (qs.length : Int) := by omega
          have i2 : (0 : Int) ≤ (k : Int) := by omega
          clear hx p0 p1 p2 p3
          go_wp2_with fail
          go_quiet (fail)
          clear c0 c1 c2 c3
          go_wp2_with fail
          go_roundw
          case rel => exact ⟨k + 1, by go_num, by omega, Lib.hid (below_drewN hbw.out _)⟩
          case measure => simp [intOf]; omega
        · go_wp2
          go_ret
          exact ⟨rfl, hbw.out⟩
end Go.Proofs.Ytoibjedpniepbaa
