/-
  The contracts of SplitBounty, SavePrize, EvenChop. Conditions: at most 1048576 elements.
-/
import Derived.Test.YthpgkngkmmameaaDeals
import Derived.Test.YthpgkngkmmameaaPrizes
namespace Go.Proofs.Ythpgkngkmmameaa
open Go.RowKit
set_option linter.unusedVariables false
def sbV (u k : Int) : List Int := if inB u 0 1000000 && inB k 1 5 then divV u (List.replicate k.toNat 1) else []
def sbE (u k : Int) : Int := if inB u 0 1000000 && inB k 1 5 then 0 else 2
theorem impl_SplitBounty_c (u k : Int) (w : World) : Calls Try.prog 26 #[.int .i64 u, .int .i64 k] w (LR w (sbV u k) (sbE u k)) := by
  cases h1 : inB u 0 1000000
  · have HV := Lib.hid (show sbV u k = [] by simp [sbV, h1])
    have HE := Lib.hid (show sbE u k = 2 by simp [sbE, h1])
    go_enter Try.func26, Try.ntmps26
    go_wp2_with (go_at_call 94; refine (impl_within_c _ _ _ _).mono ?_; rintro e w' ⟨rfl, rfl⟩)
    go_ret2
    rw [HV.out, HE.out]
    exact LR.mk rfl rfl (Nat.zero_le _) (OI.nil _ _ _ _) (Below.refl _ _)
  cases h2 : inB k 1 5
  · have HV := Lib.hid (show sbV u k = [] by simp [sbV, h2])
    have HE := Lib.hid (show sbE u k = 2 by simp [sbE, h2])
    go_enter Try.func26, Try.ntmps26
    go_wp2_with (go_at_call 94; refine (impl_within_c _ _ _ _).mono ?_; rintro e w' ⟨rfl, rfl⟩)
    go_ret2
    rw [HV.out, HE.out]
    exact LR.mk rfl rfl (Nat.zero_le _) (OI.nil _ _ _ _) (Below.refl _ _)
  obtain ⟨m, rfl⟩ : ∃ m : Nat, k = m := ⟨k.toNat, by have := inB_iff.1 h2; omega⟩
  have hk := inB_iff.1 h2
  have hu := inB_iff.1 h1
  have hok := ones_ok (u := u) (n := m) hu.1 (by omega) (by omega) (by omega)
  have HV := Lib.hid (show sbV u m = divV u (List.replicate m 1) by simp [sbV, h1, h2])
  have HE := Lib.hid (show sbE u m = 0 by simp [sbE, h1, h2])
  have hm : m ≤ 1048576 := by omega
  go_enter Try.func26, Try.ntmps26
  go_wp2_with (go_at_call 94; refine (impl_within_c _ _ _ _).mono ?_; rintro e w' ⟨rfl, rfl⟩)
  refine (impl_equalWeights_c m _ hm).mono ?_
  rintro e w1 ⟨g1, rfl, o1, b1⟩
  go_wp2_with fail
  refine (impl_divided_c _ _ _ _ (List.replicate m 1) _ (by simp) (by omega) o1.ri hok).mono ?_
  rintro e w2 ⟨g, rfl, ho, hb⟩
  go_wp2_with fail
  go_ret2
  rw [HV.out, HE.out]
  exact LR.mk rfl (by rw [divV_len]; simp) hm (ho.widen b1.size (Nat.le_refl _)) (below_step b1 hb b1.size)
theorem spec_SplitBounty_c (u k : Int) (w : World) : Calls Try.prog 27 #[.int .i64 u, .int .i64 k] w (LR w (sbV u k) (sbE u k)) := by
  cases h1 : inB u 0 1000000
  · have HV := Lib.hid (show sbV u k = [] by simp [sbV, h1])
    have HE := Lib.hid (show sbE u k = 2 by simp [sbE, h1])
    go_enter Try.func27, Try.ntmps27
    go_wp2_with (go_at_call 98; refine (spec_l01In_c _ _ _ _).mono ?_; rintro e w' ⟨rfl, rfl⟩)
    go_ret2
    rw [HV.out, HE.out]
    exact LR.mk rfl rfl (Nat.zero_le _) (OI.nil _ _ _ _) (Below.refl _ _)
  cases h2 : inB k 1 5
  · have HV := Lib.hid (show sbV u k = [] by simp [sbV, h2])
    have HE := Lib.hid (show sbE u k = 2 by simp [sbE, h2])
    go_enter Try.func27, Try.ntmps27
    go_wp2_with (go_at_call 98; refine (spec_l01In_c _ _ _ _).mono ?_; rintro e w' ⟨rfl, rfl⟩)
    go_ret2
    rw [HV.out, HE.out]
    exact LR.mk rfl rfl (Nat.zero_le _) (OI.nil _ _ _ _) (Below.refl _ _)
  obtain ⟨m, rfl⟩ : ∃ m : Nat, k = m := ⟨k.toNat, by have := inB_iff.1 h2; omega⟩
  have hk := inB_iff.1 h2
  have hu := inB_iff.1 h1
  have hok := ones_ok (u := u) (n := m) hu.1 (by omega) (by omega) (by omega)
  have HV := Lib.hid (show sbV u m = divV u (List.replicate m 1) by simp [sbV, h1, h2])
  have HE := Lib.hid (show sbE u m = 0 by simp [sbE, h1, h2])
  have hm : m ≤ 1048576 := by omega
  go_enter Try.func27, Try.ntmps27
  go_wp2_with (go_at_call 98; refine (spec_l01In_c _ _ _ _).mono ?_; rintro e w' ⟨rfl, rfl⟩)
  refine (spec_l30Ones_c m _ (by omega)).mono ?_
  rintro e w1 ⟨g1, c1, rfl, o1, b1⟩
  go_wp2_with fail
  refine (spec_l30Divide_c _ _ _ _ (List.replicate m 1) _ (by simp) (by omega) o1.oi.ri hok).mono ?_
  rintro e w2 ⟨g, c2, rfl, ho, hb⟩
  go_wp2_with fail
  go_ret2
  rw [HV.out, HE.out]
  exact LR.mk rfl (by rw [divV_len]; simp) hm (ho.widen b1.size (Nat.le_refl _)) (below_step b1 hb b1.size)

def ecV (S P : List Int) : List Int := if prizesB S P = true then divV (sumL P) (List.replicate S.length 1) else []
def ecE (S P : List Int) : Int := if prizesB S P = true then 0 else 1
theorem prizes_sum {S P : List Int} (h : prizesB S P = true) : 0 ≤ sumL P ∧ sumL P ≤ 500000 ∧ 2 ≤ S.length ∧ S.length ≤ 5 ∧ 1 ≤ P.length ∧ P.length ≤ S.length := by
  obtain ⟨h1, h2, h3, h4, -⟩ := prizesB_iff.1 h
  obtain ⟨k1, k2, -⟩ := fieldB_iff.1 h1
  have := sumL_bound (zs := P) (B := 100000) (by omega) (fun x hx => by have := h4 x hx; omega) P.length
  rw [List.take_length] at this
  exact ⟨sumL_nonneg (fun x hx => (h4 x hx).1), by omega, k1, k2, h2, h3⟩
theorem prizes_small {S P : List Int} (h : prizesB S P = true) : Hid (∀ x ∈ P, -4000000000 ≤ x ∧ x ≤ 4000000000) := fun x hx => by
  have := (prizesB_iff.1 h).2.2.2.1 x hx
  omega
theorem impl_EvenChop_c (A : Option Addr) (n c : Nat) (S : List Int) (B : Option Addr) (m d : Nat) (P : List Int) (w : World) (hn : S.length = n) (hm : n ≤ 1048576) (hr : RI w A S) (hn' : P.length = m) (hm' : m ≤ 1048576) (hr' : RI w B P) :
    Calls Try.prog 36 #[.slice A n c, .slice B m d] w (LR w (ecV S P) (ecE S P)) := by
  subst hn
  subst hn'
  cases h1 : prizesB S P
  · have HV := Lib.hid (show ecV S P = [] by simp [ecV, h1])
    have HE := Lib.hid (show ecE S P = 1 by simp [ecE, h1])
    go_enter Try.func36, Try.ntmps36
    go_wp2_with (go_at_call 103; refine (impl_ArePrizes_c _ _ _ _ _ _ S P _ rfl hm hr rfl hm' hr').mono ?_; rintro e w' ⟨rfl, q, rfl⟩)
    go_ret2
    rw [HV.out, HE.out]
    exact LR.mk rfl rfl (Nat.zero_le _) (OI.nil _ _ _ _) (below_drewN (Below.refl _ _) _)
  · have HV := Lib.hid (show ecV S P = divV (sumL P) (List.replicate S.length 1) by simp [ecV, h1])
    have HE := Lib.hid (show ecE S P = 0 by simp [ecE, h1])
    obtain ⟨s0, s1, n0, n1, m0, m1⟩ := prizes_sum h1
    have hz := prizes_small h1
    have hok := ones_ok (u := sumL P) (n := S.length) s0 (by omega) (by omega) (by omega)
    go_enter Try.func36, Try.ntmps36
    go_wp2_with (first
      | (go_at_call 103; refine (impl_ArePrizes_c _ _ _ _ _ _ S P _ rfl hm hr rfl hm' hr').mono ?_; rintro e w' ⟨rfl, q, rfl⟩)
      | (go_at_call 87; refine (impl_sumOf_c _ _ _ P _ rfl hm' (hr'.drewN _) hz).mono ?_; rintro e w' ⟨rfl, rfl⟩))
    refine (impl_equalWeights_c S.length _ hm).mono ?_
    rintro e w1 ⟨g1, rfl, o1, b1⟩
    have b1' := below_step (below_drewN (Below.refl w.heap.size w) q) b1 (Nat.le_refl _)
    go_wp2_with fail
    refine (impl_divided_c _ _ _ _ (List.replicate S.length 1) _ (by simp) (by omega) o1.ri hok).mono ?_
    rintro e w2 ⟨g, rfl, ho, hb⟩
    go_wp2_with fail
    go_ret2
    rw [HV.out, HE.out]
    exact LR.mk rfl (by rw [divV_len]; simp) hm (ho.widen b1'.size (Nat.le_refl _)) (below_step b1' hb b1'.size)
theorem spec_EvenChop_c (A : Option Addr) (n c : Nat) (S : List Int) (B : Option Addr) (m d : Nat) (P : List Int) (w : World) (hn : S.length = n) (hm : n ≤ 1048576) (hr : RI w A S) (hn' : P.length = m) (hm' : m ≤ 1048576) (hr' : RI w B P) :
    Calls Try.prog 37 #[.slice A n c, .slice B m d] w (LR w (ecV S P) (ecE S P)) := by
  subst hn
  subst hn'
  cases h1 : prizesB S P
  · have HV := Lib.hid (show ecV S P = [] by simp [ecV, h1])
    have HE := Lib.hid (show ecE S P = 1 by simp [ecE, h1])
    go_enter Try.func37, Try.ntmps37
    go_wp2_with (go_at_call 104; refine (spec_ArePrizes_c _ _ _ _ _ _ S P _ rfl hm hr rfl hm' hr').mono ?_; rintro e w' ⟨rfl, q, rfl⟩)
    go_ret2
    rw [HV.out, HE.out]
    exact LR.mk rfl rfl (Nat.zero_le _) (OI.nil _ _ _ _) (below_drewN (Below.refl _ _) _)
  · have HV := Lib.hid (show ecV S P = divV (sumL P) (List.replicate S.length 1) by simp [ecV, h1])
    have HE := Lib.hid (show ecE S P = 0 by simp [ecE, h1])
    obtain ⟨s0, s1, n0, n1, m0, m1⟩ := prizes_sum h1
    have hz := prizes_small h1
    have hok := ones_ok (u := sumL P) (n := S.length) s0 (by omega) (by omega) (by omega)
    go_enter Try.func37, Try.ntmps37
    go_wp2_with (first
      | (go_at_call 104; refine (spec_ArePrizes_c _ _ _ _ _ _ S P _ rfl hm hr rfl hm' hr').mono ?_; rintro e w' ⟨rfl, q, rfl⟩)
      | (go_at_call 84; refine (spec_l01Sum_c _ _ _ P _ rfl hm' (hr'.drewN _) hz).mono ?_; rintro e w' ⟨rfl, rfl⟩))
    refine (spec_l30Ones_c S.length _ (by omega)).mono ?_
    rintro e w1 ⟨g1, c1, rfl, o1, b1⟩
    have b1' := below_step (below_drewN (Below.refl w.heap.size w) q) b1 (Nat.le_refl _)
    go_wp2_with fail
    refine (spec_l30Divide_c _ _ _ _ (List.replicate S.length 1) _ (by simp) (by omega) o1.oi.ri hok).mono ?_
    rintro e w2 ⟨g, c2, rfl, ho, hb⟩
    go_wp2_with fail
    go_ret2
    rw [HV.out, HE.out]
    exact LR.mk rfl (by rw [divV_len]; simp) hm (ho.widen b1'.size (Nat.le_refl _)) (below_step b1' hb b1'.size)
end Go.Proofs.Ythpgkngkmmameaa
