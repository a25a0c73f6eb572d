/-
  The contracts of IsField and ArePrizes. Conditions: at most 1048576 elements.
-/
import Derived.Test.YteeillcmnmhhmaaSums
namespace Go.Proofs.Yteeillcmnmhhmaa
open Go.RowKit
set_option linter.unusedVariables false

def fieldB (zs : List Int) : Bool := inB (zs.length : Int) 2 5 && allIn zs 1 1000
theorem fieldB_iff {zs : List Int} : fieldB zs = true ↔ 2 ≤ zs.length ∧ zs.length ≤ 5 ∧ ∀ x ∈ zs, 1 ≤ x ∧ x ≤ 1000 := by
  unfold fieldB
  rw [Bool.and_eq_true, allIn_iff, inB_iff]
  constructor
  · rintro ⟨⟨a, b⟩, c⟩; exact ⟨by omega, by omega, c⟩
  · rintro ⟨a, b, c⟩; exact ⟨⟨by omega, by omega⟩, c⟩
theorem impl_IsField_c (A : Option Addr) (n c : Nat) (zs : List Int) (w : World) (hn : zs.length = n) (hm : n ≤ 1048576) (hr : RI w A zs) :
    Calls Try.prog 79 #[.slice A n c] w fun e w' => e = .returned (.bool (fieldB zs)) ∧ w = w' := by
  subst hn
  cases h1 : inB (zs.length : Int) 2 5
  · have HR := Lib.hid (show fieldB zs = false by simp [fieldB, h1])
    go_enter Try.func79, Try.ntmps79
    go_wp2_with (go_at_call 59; refine (impl_within_c _ _ _ _).mono ?_; rintro e w' ⟨rfl, rfl⟩)
    go_ret
    exact ⟨ret_bool HR.out.symm, rfl⟩
  · have HR := Lib.hid (show fieldB zs = allIn zs 1 1000 by simp [fieldB, h1])
    go_enter Try.func79, Try.ntmps79
    go_wp2_with (first
      | (go_at_call 59; refine (impl_within_c _ _ _ _).mono ?_; rintro e w' ⟨rfl, rfl⟩)
      | (go_at_call 60; refine (impl_allWithin_c _ _ _ zs _ _ _ rfl hm hr).mono ?_; rintro e w' ⟨rfl, rfl⟩))
    go_ret
    exact ⟨ret_bool HR.out.symm, rfl⟩
theorem spec_IsField_c (A : Option Addr) (n c : Nat) (zs : List Int) (w : World) (hn : zs.length = n) (hm : n ≤ 1048576) (hr : RI w A zs) :
    Calls Try.prog 77 #[.slice A n c] w fun e w' => e = .returned (.bool (fieldB zs)) ∧ w = w' := by
  subst hn
  rcases hr.split with h0 | ⟨b, off, rfl, hb, hc⟩
  all_goals
    go_enter Try.func77, Try.ntmps77
    go_wp2_with fail
    go_loop [3] (fun i => ∃ k : Nat, i = .int .i64 k ∧ k ≤ zs.length ∧ (zs.take k).all (fun x => inB x 1 1000) = true) (fun i => zs.length - (intOf i).toNat)
    case atStart => exact ⟨0, rfl, Nat.zero_le _, by simp⟩
    case round =>
      obtain ⟨k, rfl, hk, ha⟩ := hrel
      have HA := Lib.hid ha
      clear ha
      by_cases hlt : k < zs.length
      · first
          | (exfalso; omega; done)
          | (obtain ⟨x, hx⟩ := get_some hlt
             have hcx := hc.out k x hx
             have HX := Lib.hid hx
             clear hx
             cases hs : inB x 1 1000
             · have hf := allB_fail (p := fun x => inB x 1 1000) HX.out hs
               have HR := Lib.hid (show fieldB zs = false by unfold fieldB allIn; rw [hf]; simp)
               clear hf
               go_wp2_with (go_at_call 58; refine (spec_l01In_c _ _ _ _).mono ?_; rintro e w' ⟨rfl, rfl⟩)
               go_ret
               exact ⟨ret_bool HR.out.symm, rfl⟩
             · go_wp2_with (go_at_call 58; refine (spec_l01In_c _ _ _ _).mono ?_; rintro e w' ⟨rfl, rfl⟩)
               go_round
               case rel => exact ⟨k + 1, by go_num, by omega, by rw [allB_step HX.out, HA.out, hs]; rfl⟩
               case measure => simp [intOf]; omega)
      · have hd := allB_done (p := fun x => inB x 1 1000) hlt HA.out
        have HR := Lib.hid (show fieldB zs = inB (zs.length : Int) 2 5 by unfold fieldB allIn; rw [hd]; simp)
        clear hd
        go_wp2_with (go_at_call 58; refine (spec_l01In_c _ _ _ _).mono ?_; rintro e w' ⟨rfl, rfl⟩)
        go_ret
        exact ⟨ret_bool HR.out.symm, rfl⟩

/-- None is greater than the one before it, among the first k. -/
def descTo (zs : List Int) : Nat → Bool
  | 0 => true
  | k + 1 => descTo zs k && decide (k = 0 ∨ zs.getD k 0 ≤ zs.getD (k - 1) 0)
def descB (zs : List Int) : Bool := descTo zs zs.length
theorem descTo_no {zs : List Int} {k n : Nat} (h : descTo zs k = false) (hn : k ≤ n) : descTo zs n = false := by
  induction n with
  | zero => obtain rfl : k = 0 := by omega
            exact h
  | succ n ih =>
    by_cases hk : k = n + 1
    · subst hk; exact h
    · unfold descTo; rw [ih (by omega)]; rfl
theorem desc_step {zs : List Int} {k : Nat} {x y : Int} (h : descTo zs k = true) (hk : k = 0 ∨ 0 < k) (hx : zs[k]? = some x) (hy : 0 < k → zs[k - 1]? = some y) (hxy : 0 < k → x ≤ y) : descTo zs (k + 1) = true := by
  unfold descTo
  rw [h, Bool.true_and, decide_eq_true_eq]
  rcases Nat.eq_zero_or_pos k with h0 | h0
  · exact .inl h0
  · refine .inr ?_
    simp [List.getD, hx, hy h0, hxy h0]
theorem desc_bad {zs : List Int} {k : Nat} {x y : Int} (hk : 0 < k) (hx : zs[k]? = some x) (hy : zs[k - 1]? = some y) (hxy : y < x) : descB zs = false := by
  have hl : k < zs.length := (List.getElem?_eq_some_iff.1 hx).1
  refine descTo_no (k := k + 1) ?_ (by omega)
  unfold descTo
  rw [show decide (k = 0 ∨ zs.getD k 0 ≤ zs.getD (k - 1) 0) = false from decide_eq_false (by simp [List.getD, hx, hy]; omega), Bool.and_false]
theorem descB_le {zs : List Int} (h : descB zs = true) : ∀ k, 0 < k → k < zs.length → zs.getD k 0 ≤ zs.getD (k - 1) 0 := by
  intro k hk hl
  have h1 : descTo zs (k + 1) = true := by
    cases hc : descTo zs (k + 1)
    · have := descTo_no hc (n := zs.length) (by omega)
      unfold descB at h
      rw [this] at h
      cases h
    · rfl
  unfold descTo at h1
  rw [Bool.and_eq_true, decide_eq_true_eq] at h1
  rcases h1.2 with h2 | h2
  · omega
  · exact h2
end Go.Proofs.Yteeillcmnmhhmaa
