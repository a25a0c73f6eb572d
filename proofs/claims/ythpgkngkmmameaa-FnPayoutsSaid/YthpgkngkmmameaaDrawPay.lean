/-
  What the reference draws for chapter 31. Conditions: a code of at most 1048576 bytes.
-/
import Derived.Test.YthpgkngkmmameaaDrawBase
import Derived.Test.YthpgkngkmmameaaArgB
namespace Go.Proofs.Ythpgkngkmmameaa
open Go.RowKit
set_option linter.unusedVariables false
theorem spec_DrawFlatShares_c (A : Option Addr) (n c : Nat) (bs : List Int) (w : World) (hn : bs.length = n) (hm : n ≤ 1048576) (hr : BR w A bs) :
    Calls Try.prog 63 #[.slice A n c] w fun e w' => ∃ k : Int, e = .returned (.int .i64 k) ∧ -1 ≤ k ∧ k ≤ 13 ∧ Below w.heap.size w w' := by
  go_enter Try.func63, Try.ntmps63
  go_wp2_with fail
  refine (spec_l01From_c A n c bs _ hn hm hr).mono ?_
  rintro e w0 ⟨g, rfl, hs0, hb0⟩
  obtain ⟨lo, hlo⟩ : ∃ lo, lo = w.heap.size := ⟨_, rfl⟩
  rw [← hlo] at hs0
  have HLO := Lib.hid (show ∀ w', Kept g (g + 1) w0 w' → Below w.heap.size w w' from fun w' hk => src_below (by rw [hlo] at hs0; exact hs0) hb0 hk)
  clear hlo hb0 hr hn hm
  go_wp2_with fail
  refine (spec_l01Next_c _ lo g _ hs0 (by omega)).mono ?_
  rintro e w1 ⟨r1, rfl, p1, q1, hs1, hk1⟩
  have e1 : r1 ≤ 14 := by omega
  have HK := Lib.hid hk1
  clear hk1 q1
  go_wp2_with fail
  go_ret
  exact ⟨_, rfl, by omega, by omega, HLO.out _ HK.out⟩
end Go.Proofs.Ythpgkngkmmameaa
