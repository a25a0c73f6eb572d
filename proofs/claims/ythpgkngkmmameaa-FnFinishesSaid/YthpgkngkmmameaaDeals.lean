/-
  The contracts of DivideMoney, SplitBounty. Conditions: at most 1048576 elements.
-/
import Derived.Test.YthpgkngkmmameaaDivSpec
import Derived.Test.YthpgkngkmmameaaArg
namespace Go.Proofs.Ythpgkngkmmameaa
open Go.RowKit
set_option linter.unusedVariables false
/-- Units of at most 10000000 and weights of 1. -/
theorem ones_ok {u : Int} {n : Nat} (h0 : 0 ≤ u) (h1 : u ≤ 10000000) (h2 : 1 ≤ n) (h3 : n ≤ 1000) : DivOk u (List.replicate n 1) := by
  refine ⟨h0, h1, fun x hx => ?_, ?_, by simpa using h3⟩
  · have := List.eq_of_mem_replicate hx; omega
  · rw [← sumD_sumL, sumD_ones]; omega
theorem sumL_nonneg {l : List Int} (h : ∀ x ∈ l, 0 ≤ x) : 0 ≤ sumL l := sumD_nonneg h
def dmB (ws : List Int) : Bool := inB (ws.length : Int) 1 5 && allIn ws 0 1000000 && decide (0 < sumL ws)
theorem dmB_ok {u : Int} {ws : List Int} (h : dmB ws = true) (hu : inB u 0 1000000 = true) : DivOk u ws := by
  unfold dmB at h
  rw [Bool.and_eq_true, Bool.and_eq_true, inB_iff, allIn_iff, decide_eq_true_eq] at h
  obtain ⟨⟨h1, h2⟩, h3⟩ := h
  have := inB_iff.1 hu
  exact ⟨by omega, by omega, fun x hx => by have := h2 x hx; omega, by omega, by omega⟩
def dmV (u : Int) (ws : List Int) : List Int := if dmB ws = true then (if inB u 0 1000000 = true then divV u ws else []) else []
def dmE (u : Int) (ws : List Int) : Int := if dmB ws = true then (if inB u 0 1000000 = true then 0 else 2) else 1
theorem impl_DivideMoney_c (u : Int) (A : Option Addr) (n c : Nat) (ws : List Int) (w : World) (hn : ws.length = n) (hm : n ≤ 1048576) (hr : RI w A ws) :
    Calls Try.prog 23 #[.int .i64 u, .slice A n c] w (LR w (dmV u ws) (dmE u ws)) := by
  subst hn
  cases h1 : inB (ws.length : Int) 1 5
  · have HV := Lib.hid (show dmV u ws = [] by simp [dmV, dmB, h1])
    have HE := Lib.hid (show dmE u ws = 1 by simp [dmE, dmB, h1])
    go_enter Try.func23, Try.ntmps23
    go_wp2_with (go_at_call 94; refine (impl_within_c _ _ _ _).mono ?_; rintro e w' ⟨rfl, rfl⟩)
    go_ret2
    rw [HV.out, HE.out]
    exact LR.mk rfl rfl (Nat.zero_le _) (OI.nil _ _ _ _) (Below.refl _ _)
  cases h2 : allIn ws 0 1000000
  · have HV := Lib.hid (show dmV u ws = [] by simp [dmV, dmB, h2])
    have HE := Lib.hid (show dmE u ws = 1 by simp [dmE, dmB, h2])
    go_enter Try.func23, Try.ntmps23
    go_wp2_with (first
      | (go_at_call 94; refine (impl_within_c _ _ _ _).mono ?_; rintro e w' ⟨rfl, rfl⟩)
      | (go_at_call 95; refine (impl_allWithin_c _ _ _ ws _ _ _ rfl hm hr).mono ?_; rintro e w' ⟨rfl, rfl⟩))
    go_ret2
    rw [HV.out, HE.out]
    exact LR.mk rfl rfl (Nat.zero_le _) (OI.nil _ _ _ _) (Below.refl _ _)
  have hz := Lib.hid (show ∀ x ∈ ws, -4000000000 ≤ x ∧ x ≤ 4000000000 from fun x hx => by have := allIn_iff.1 h2 x hx; omega)
  have hs0 := sumL_nonneg (fun x hx => (allIn_iff.1 h2 x hx).1)
  by_cases h3 : 0 < sumL ws
  · have hne : (sumL ws == 0) = false := by simp; omega
    cases h4 : inB u 0 1000000
    · have HV := Lib.hid (show dmV u ws = [] by simp [dmV, dmB, h4])
      have HE := Lib.hid (show dmE u ws = 2 by simp [dmE, dmB, h1, h2, h3, h4])
      go_enter Try.func23, Try.ntmps23
      go_wp2_with (first
        | (go_at_call 94; refine (impl_within_c _ _ _ _).mono ?_; rintro e w' ⟨rfl, rfl⟩)
        | (go_at_call 95; refine (impl_allWithin_c _ _ _ ws _ _ _ rfl hm hr).mono ?_; rintro e w' ⟨rfl, rfl⟩)
        | (go_at_call 87; refine (impl_sumOf_c _ _ _ ws _ rfl hm hr hz).mono ?_; rintro e w' ⟨rfl, rfl⟩))
      go_ret2
      rw [HV.out, HE.out]
      exact LR.mk rfl rfl (Nat.zero_le _) (OI.nil _ _ _ _) (Below.refl _ _)
    · have hok := dmB_ok (ws := ws) (by simp [dmB, h1, h2, h3]) h4
      have HV := Lib.hid (show dmV u ws = divV u ws by simp [dmV, dmB, h1, h2, h3, h4])
      have HE := Lib.hid (show dmE u ws = 0 by simp [dmE, dmB, h1, h2, h3, h4])
      have hl := inB_iff.1 h1
      go_enter Try.func23, Try.ntmps23
      go_wp2_with (first
        | (go_at_call 94; refine (impl_within_c _ _ _ _).mono ?_; rintro e w' ⟨rfl, rfl⟩)
        | (go_at_call 95; refine (impl_allWithin_c _ _ _ ws _ _ _ rfl hm hr).mono ?_; rintro e w' ⟨rfl, rfl⟩)
        | (go_at_call 87; refine (impl_sumOf_c _ _ _ ws _ rfl hm hr hz).mono ?_; rintro e w' ⟨rfl, rfl⟩))
      refine (impl_divided_c _ _ _ _ ws _ rfl (by omega) hr hok).mono ?_
      rintro e w1 ⟨g, rfl, ho, hb⟩
      go_wp2_with fail
      go_ret2
      rw [HV.out, HE.out]
      exact LR.mk rfl (divV_len _ _) hm ho hb
  · have hne : (sumL ws == 0) = true := by simp; omega
    have HV := Lib.hid (show dmV u ws = [] by simp [dmV, dmB, h3])
    have HE := Lib.hid (show dmE u ws = 1 by simp [dmE, dmB, h3])
    go_enter Try.func23, Try.ntmps23
    go_wp2_with (first
      | (go_at_call 94; refine (impl_within_c _ _ _ _).mono ?_; rintro e w' ⟨rfl, rfl⟩)
      | (go_at_call 95; refine (impl_allWithin_c _ _ _ ws _ _ _ rfl hm hr).mono ?_; rintro e w' ⟨rfl, rfl⟩)
      | (go_at_call 87; refine (impl_sumOf_c _ _ _ ws _ rfl hm hr hz).mono ?_; rintro e w' ⟨rfl, rfl⟩))
    go_ret2
    rw [HV.out, HE.out]
    exact LR.mk rfl rfl (Nat.zero_le _) (OI.nil _ _ _ _) (Below.refl _ _)
theorem spec_l30Weights_c (A : Option Addr) (n c : Nat) (zs : List Int) (w : World) (hn : zs.length = n) (hm : n ≤ 1048576) (hr : RI w A zs) :
    Calls Try.prog 97 #[.slice A n c] w fun e w' => e = .returned (.bool (dmB zs)) ∧ w = w' := by
  subst hn
  rcases hr.split with h0 | ⟨b, off, rfl, hb, hc⟩
  all_goals
    go_enter Try.func97, Try.ntmps97
    go_wp2_with fail
    go_loop [3] (fun i => ∃ k : Nat, i = .int .i64 k ∧ k ≤ zs.length ∧ (zs.take k).all (fun x => inB x 0 1000000) = true) (fun i => zs.length - (intOf i).toNat)
    case atStart => exact ⟨0, rfl, Nat.zero_le _, by simp⟩
    case round =>
      obtain ⟨k, rfl, hk, ha⟩ := hrel
      have HA := Lib.hid ha
      clear ha
      by_cases hlt : k < zs.length
      · first
          | (exfalso; omega; done)
          | (obtain ⟨x, hx⟩ := get_some hlt
             have hcx := hc.out k x hx
             have HX := Lib.hid hx
             clear hx
             cases hs : inB x 0 1000000
             · have hf := allB_fail (p := fun x => inB x 0 1000000) HX.out hs
               have HR := Lib.hid (show dmB zs = false by unfold dmB allIn; rw [hf]; simp)
               clear hf
               go_wp2_with (go_at_call 98; refine (spec_l01In_c _ _ _ _).mono ?_; rintro e w' ⟨rfl, rfl⟩)
               go_ret
               exact ⟨ret_bool HR.out.symm, rfl⟩
             · go_wp2_with (go_at_call 98; refine (spec_l01In_c _ _ _ _).mono ?_; rintro e w' ⟨rfl, rfl⟩)
               go_round
               case rel => exact ⟨k + 1, by go_num, by omega, by rw [allB_step HX.out, HA.out, hs]; rfl⟩
               case measure => simp [intOf]; omega)
      · have hd := allB_done (p := fun x => inB x 0 1000000) hlt HA.out
        have hz := Lib.hid (show ∀ x ∈ zs, -4000000000 ≤ x ∧ x ≤ 4000000000 from fun x hx => by have := allIn_iff.1 (show allIn zs 0 1000000 = true from hd) x hx; omega)
        cases h1 : inB (zs.length : Int) 1 5
        · have HR := Lib.hid (show dmB zs = false by unfold dmB; rw [h1]; simp)
          clear hd
          go_wp2_with (go_at_call 98; refine (spec_l01In_c _ _ _ _).mono ?_; rintro e w' ⟨rfl, rfl⟩)
          go_ret
          exact ⟨ret_bool HR.out.symm, rfl⟩
        · have HR := Lib.hid (show dmB zs = decide (0 < sumL zs) by unfold dmB; rw [h1, show allIn zs 0 1000000 = true from hd]; simp)
          clear hd
          go_wp2_with (first
            | (go_at_call 98; refine (spec_l01In_c _ _ _ _).mono ?_; rintro e w' ⟨rfl, rfl⟩)
            | (go_at_call 84; refine (spec_l01Sum_c _ _ _ zs _ rfl hm hr hz).mono ?_; rintro e w' ⟨rfl, rfl⟩))
          go_ret
          exact ⟨ret_bool HR.out.symm, rfl⟩
theorem spec_DivideMoney_c (u : Int) (A : Option Addr) (n c : Nat) (ws : List Int) (w : World) (hn : ws.length = n) (hm : n ≤ 1048576) (hr : RI w A ws) :
    Calls Try.prog 24 #[.int .i64 u, .slice A n c] w (LR w (dmV u ws) (dmE u ws)) := by
  subst hn
  cases h1 : dmB ws
  · have HV := Lib.hid (show dmV u ws = [] by simp [dmV, h1])
    have HE := Lib.hid (show dmE u ws = 1 by simp [dmE, h1])
    go_enter Try.func24, Try.ntmps24
    go_wp2_with (go_at_call 97; refine (spec_l30Weights_c _ _ _ ws _ rfl hm hr).mono ?_; rintro e w' ⟨rfl, rfl⟩)
    go_ret2
    rw [HV.out, HE.out]
    exact LR.mk rfl rfl (Nat.zero_le _) (OI.nil _ _ _ _) (Below.refl _ _)
  cases h4 : inB u 0 1000000
  · have HV := Lib.hid (show dmV u ws = [] by simp [dmV, h4])
    have HE := Lib.hid (show dmE u ws = 2 by simp [dmE, h1, h4])
    go_enter Try.func24, Try.ntmps24
    go_wp2_with (first
      | (go_at_call 97; refine (spec_l30Weights_c _ _ _ ws _ rfl hm hr).mono ?_; rintro e w' ⟨rfl, rfl⟩)
      | (go_at_call 98; refine (spec_l01In_c _ _ _ _).mono ?_; rintro e w' ⟨rfl, rfl⟩))
    go_ret2
    rw [HV.out, HE.out]
    exact LR.mk rfl rfl (Nat.zero_le _) (OI.nil _ _ _ _) (Below.refl _ _)
  · have hok := dmB_ok h1 h4
    have hl : 1 ≤ ws.length := by
      have h2 := h1
      unfold dmB at h2
      rw [Bool.and_eq_true, Bool.and_eq_true, inB_iff] at h2
      omega
    have HV := Lib.hid (show dmV u ws = divV u ws by simp [dmV, h1, h4])
    have HE := Lib.hid (show dmE u ws = 0 by simp [dmE, h1, h4])
    go_enter Try.func24, Try.ntmps24
    go_wp2_with (first
      | (go_at_call 97; refine (spec_l30Weights_c _ _ _ ws _ rfl hm hr).mono ?_; rintro e w' ⟨rfl, rfl⟩)
      | (go_at_call 98; refine (spec_l01In_c _ _ _ _).mono ?_; rintro e w' ⟨rfl, rfl⟩))
    refine (spec_l30Divide_c _ _ _ _ ws _ rfl hl hr hok).mono ?_
    rintro e w1 ⟨g, c', rfl, ho, hb⟩
    go_wp2_with fail
    go_ret2
    rw [HV.out, HE.out]
    exact LR.mk rfl (divV_len _ _) hm ho hb
end Go.Proofs.Ythpgkngkmmameaa
