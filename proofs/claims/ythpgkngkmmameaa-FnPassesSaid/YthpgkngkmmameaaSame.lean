/-
  The contracts of comparisons of two lists: slices.Equal, l01Same. Conditions: at most 1048576 elements each.
-/
import Derived.Test.YthpgkngkmmameaaLaw
import Derived.Test.YthpgkngkmmameaaPlainCards
namespace Go.Proofs.Ythpgkngkmmameaa
open Go.RowKit
set_option linter.unusedVariables false

theorem spec_l01Same_c (A B : Option Addr) (n m c d : Nat) (xs ys : List Int) (w : World) (hn : xs.length = n) (hm : ys.length = m) (hb0 : n ≤ 1048576) (hb1 : m ≤ 1048576) (hr : RI w A xs) (hr' : RI w B ys) :
    Calls Try.prog 136 #[.slice A n c, .slice B m d] w fun e w' => e = .returned (.bool (decide (xs = ys))) ∧ Below w.heap.size w w' := by
  subst hn
  subst hm
  by_cases hne : xs.length = ys.length
  · have HE := Lib.hid hne
    have e1 : xs.length ≤ ys.length := by omega
    have e2 : ys.length ≤ xs.length := by omega
    have e3 : ((xs.length : Int) != (ys.length : Int)) = false := by simp [hne]
    clear hne
    rcases hr.split with h0 | ⟨b, off, rfl, hb, hc⟩
    all_goals
      rcases hr'.split with h0' | ⟨b', off', rfl, hb', hc'⟩
      all_goals
        go_enter Try.func136, Try.ntmps136
        go_wp2_with fail
        go_loopw [5] (fun i wr => ∃ k : Nat, i = .int .i64 k ∧ k ≤ xs.length ∧ xs.take k = ys.take k ∧ ∃ q, wr = w.drewN q) (fun i _ => xs.length - (intOf i).toNat)
        case atStart => exact ⟨0, rfl, Nat.zero_le _, rfl, 0, rfl⟩
        case round =>
          obtain ⟨k, rfl, hk, ht, q, rfl⟩ := hrel
          have HT := Lib.hid ht
          clear ht
          by_cases hlt : k < xs.length
          · first
              | (exfalso; omega; done)
              | (obtain ⟨x, hx⟩ := get_some hlt
                 obtain ⟨y, hy⟩ := get_some (zs := ys) (k := k) (by omega)
                 have hcx := hc.out k x hx
                 have hcy := hc'.out k y hy
                 by_cases hxy : x = y
                 · subst hxy
                   have hst := take_eq_step hx hy HT.out
                   have HS := Lib.hid hst
                   clear hx hy hst
                   go_wp2_with fail
                   go_quiet (fail)
                   go_wp2_with fail
                   go_roundw
                   case rel => exact ⟨k + 1, by go_num, by omega, HS.out, _, rfl⟩
                   case measure => simp [intOf]; omega
                 · have hst := ne_of_get hx hy hxy
                   have hxb : (x != y) = true := bne_iff_ne.2 hxy
                   have HS := Lib.hid hst
                   clear hx hy hst hxy
                   go_wp2_with fail
                   go_quiet (fail)
                   go_wp2_with fail
                   go_ret
                   exact ⟨ret_bool (decide_eq_false HS.out).symm, below_drewN (below_drewN (Below.refl _ _) _) _⟩)
          · go_wp2_with fail
            go_ret
            exact ⟨ret_bool (decide_eq_true (take_eq_done hlt HE.out HT.out)).symm, below_drewN (Below.refl _ _) _⟩
  · have e3 : ((xs.length : Int) != (ys.length : Int)) = true := by simp; omega
    have hst : xs ≠ ys := fun h => hne (by rw [h])
    have HS := Lib.hid hst
    clear hst hne
    go_enter Try.func136, Try.ntmps136
    go_wp2_with fail
    go_ret
    exact ⟨ret_bool (decide_eq_false HS.out).symm, Below.refl _ _⟩
theorem slices_Equal_c (A B : Option Addr) (n m c d : Nat) (xs ys : List Int) (w : World) (hn : xs.length = n) (hm : ys.length = m) (hb0 : n ≤ 1048576) (hb1 : m ≤ 1048576) (hr : RI w A xs) (hr' : RI w B ys) :
    Calls Try.prog 135 #[.slice A n c, .slice B m d] w fun e w' => e = .returned (.bool (decide (xs = ys))) ∧ Below w.heap.size w w' := by
  subst hn
  subst hm
  by_cases hne : xs.length = ys.length
  · have HE := Lib.hid hne
    have e1 : xs.length ≤ ys.length := by omega
    have e2 : ys.length ≤ xs.length := by omega
    have e3 : ((xs.length : Int) != (ys.length : Int)) = false := by simp [hne]
    clear hne
    rcases hr.split with h0 | ⟨b, off, rfl, hb, hc⟩
    all_goals
      rcases hr'.split with h0' | ⟨b', off', rfl, hb', hc'⟩
      all_goals
        go_enter Try.func135, Try.ntmps135
        go_wp2_with fail
        go_loopw [13] (fun i wr => ∃ k : Nat, i = .int .i64 k ∧ k ≤ xs.length ∧ xs.take k = ys.take k ∧ ∃ q, wr = w.drewN q) (fun i _ => xs.length - (intOf i).toNat)
        case atStart => exact ⟨0, rfl, Nat.zero_le _, rfl, 0, rfl⟩
        case round =>
          obtain ⟨k, rfl, hk, ht, q, rfl⟩ := hrel
          have HT := Lib.hid ht
          clear ht
          by_cases hlt : k < xs.length
          · first
              | (exfalso; omega; done)
              | (obtain ⟨x, hx⟩ := get_some hlt
                 obtain ⟨y, hy⟩ := get_some (zs := ys) (k := k) (by omega)
                 have hcx := hc.out k x hx
                 have hcy := hc'.out k y hy
                 by_cases hxy : x = y
                 · subst hxy
                   have hst := take_eq_step hx hy HT.out
                   have HS := Lib.hid hst
                   clear hx hy hst
                   go_wp2_with fail
                   go_quiet (fail)
                   go_wp2_with fail
                   go_roundw
                   case rel => exact ⟨k + 1, by go_num, by omega, HS.out, _, rfl⟩
                   case measure => simp [intOf]; omega
                 · have hst := ne_of_get hx hy hxy
                   have hxb : (x != y) = true := bne_iff_ne.2 hxy
                   have HS := Lib.hid hst
                   clear hx hy hst hxy
                   go_wp2_with fail
                   go_quiet (fail)
                   go_wp2_with fail
                   go_ret
                   exact ⟨ret_bool (decide_eq_false HS.out).symm, below_drewN (below_drewN (Below.refl _ _) _) _⟩)
          · go_wp2_with fail
            go_ret
            exact ⟨ret_bool (decide_eq_true (take_eq_done hlt HE.out HT.out)).symm, below_drewN (Below.refl _ _) _⟩
  · have e3 : ((xs.length : Int) != (ys.length : Int)) = true := by simp; omega
    have hst : xs ≠ ys := fun h => hne (by rw [h])
    have HS := Lib.hid hst
    clear hst hne
    go_enter Try.func135, Try.ntmps135
    go_wp2_with fail
    go_ret
    exact ⟨ret_bool (decide_eq_false HS.out).symm, Below.refl _ _⟩
end Go.Proofs.Ythpgkngkmmameaa
