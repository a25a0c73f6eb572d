/-
  Plain laws of masks: two masks may change places, a mask and its inverse undo one another. Conditions: squares.
-/
import Derived.Test.YthpgkngkmmameaaCryptEnd
namespace Go.Proofs.Ythpgkngkmmameaa
open Go.RowKit
set_option linter.unusedVariables false
theorem pw_pw (x a b : Int) : pw (pw x a) b = (((x.toNat ^ a.toNat) ^ b.toNat % 2039 : Nat) : Int) := by
  unfold pw
  rw [Int.toNat_natCast, ← Nat.pow_mod]
theorem pw_comm (x a b : Int) : pw (pw x a) b = pw (pw x b) a := by
  rw [pw_pw, pw_pw, ← Nat.pow_mul, ← Nat.pow_mul, Nat.mul_comm]
theorem pw_inv {x k : Int} (hx : isSq x = true) (k0 : 1 ≤ k) (k1 : k ≤ 1018) : pw (pw x k) (invI k) = x := by
  obtain ⟨h1, h2, h3⟩ := isSq_nat hx
  obtain ⟨i0, i1, hi⟩ := invI_pos k k0 k1
  obtain ⟨q, hq⟩ : ∃ q, (1019 : Int).toNat = q := ⟨_, rfl⟩
  have hs := h3 q hq
  rw [pw_pw, ← Nat.pow_mul]
  have hm : k.toNat * (invI k).toNat % q = 1 := by
    have e1 : (k.toNat : Int) = k := by omega
    have e2 : ((invI k).toNat : Int) = invI k := by omega
    have : ((k.toNat * (invI k).toNat : Nat) : Int) = k * invI k := by rw [Int.natCast_mul, e1, e2]
    have hq' : q = 1019 := by omega
    rw [hq']
    generalize k.toNat * (invI k).toNat = P at *
    omega
  generalize k.toNat * (invI k).toNat = m at hm
  have hd := Nat.div_add_mod m q
  rw [hm] at hd
  rw [← hd, Nat.pow_add, Nat.pow_mul, Nat.pow_one, Nat.mul_mod, Nat.pow_mod, hs, Nat.one_pow]
  rw [show 1 % 2039 = 1 from rfl, Nat.one_mul, Nat.mod_mod, Nat.mod_eq_of_lt (by omega)]
  omega
theorem maskL_comm (zs : List Int) (a b : Int) : maskL (maskL zs a) b = maskL (maskL zs b) a := by
  unfold maskL
  rw [List.map_map, List.map_map]
  exact List.map_congr_left fun x _ => pw_comm x a b
theorem maskL_inv {zs : List Int} {k : Int} (hz : ∀ x ∈ zs, isSq x = true) (k0 : 1 ≤ k) (k1 : k ≤ 1018) : maskL (maskL zs k) (invI k) = zs := by
  unfold maskL
  rw [List.map_map]
  conv => rhs; rw [← List.map_id zs]
  exact List.map_congr_left fun x hx => pw_inv (hz x hx) k0 k1
theorem maskL_sq {zs : List Int} (k : Int) (hz : ∀ x ∈ zs, isSq x = true) : ∀ x ∈ maskL zs k, isSq x = true := by
  intro y hy
  unfold maskL at hy
  rw [List.mem_map] at hy
  obtain ⟨x, hx, rfl⟩ := hy
  exact isSq_pw k (hz x hx)
theorem inv_prod {k i : Int} (k0 : 1 ≤ k) (k1 : k ≤ 1018) (i0 : 1 ≤ i) (i1 : i ≤ 1018) : 1 ≤ k * i ∧ k * i ≤ 1036324 := by
  have a := Int.mul_le_mul k0 i0 (by decide) (by omega)
  have b := Int.mul_le_mul k1 i1 (by omega) (by decide)
  omega
theorem maskOk_iff {zs : List Int} {k : Int} : maskOk zs k = true ↔ zs.length ≤ 52 ∧ (∀ x ∈ zs, isSq x = true) ∧ 1 ≤ k ∧ k ≤ 1018 := by
  unfold maskOk
  simp only [Bool.and_eq_true, decide_eq_true_eq, List.all_eq_true, inB_iff, and_assoc]
theorem mask_yes {zs : List Int} {k : Int} (h : maskOk zs k = true) : maskE zs k = 0 ∧ maskV zs k = maskL zs k := ⟨by unfold maskE; rw [if_pos h], by unfold maskV; rw [if_pos h]⟩
theorem mask_no {zs : List Int} {k : Int} (h : ¬ maskOk zs k = true) : maskE zs k = 2 := by unfold maskE; rw [if_neg h]
theorem maskL_ok {zs : List Int} {k j : Int} (h : maskOk zs k = true) (j0 : 1 ≤ j) (j1 : j ≤ 1018) : maskOk (maskL zs k) j = true := by
  obtain ⟨h1, h2, h3, h4⟩ := maskOk_iff.1 h
  exact maskOk_iff.2 ⟨by unfold maskL; rw [List.length_map]; exact h1, maskL_sq k h2, j0, j1⟩
theorem mask_facts {zs : List Int} {k o : Int} (h : maskOk zs k = true) (o0 : 1 ≤ o) (o1 : o ≤ 1018) :
    maskE zs k = 0 ∧ maskE (maskV zs k) o = 0 ∧ maskE zs o = 0 ∧ maskE (maskV zs o) k = 0 ∧ maskV (maskV zs o) k = maskV (maskV zs k) o ∧ invE k = 0 ∧ maskE (maskV zs k) (invV k) = 0 ∧ maskV (maskV zs k) (invV k) = zs := by
  obtain ⟨h1, h2, h3, h4⟩ := maskOk_iff.1 h
  have ho : maskOk zs o = true := maskOk_iff.2 ⟨h1, h2, o0, o1⟩
  obtain ⟨i0, i1, -⟩ := invI_pos k h3 h4
  have hk : inB k 1 1018 = true := inB_iff.2 ⟨h3, h4⟩
  have hv : invV k = invI k := by unfold invV; rw [if_pos hk]
  have he : invE k = 0 := by unfold invE; rw [if_pos hk]
  rw [hv, (mask_yes h).2, (mask_yes ho).2, (mask_yes (maskL_ok h o0 o1)).2, (mask_yes (maskL_ok ho h3 h4)).2, (mask_yes (maskL_ok h i0 i1)).2]
  exact ⟨(mask_yes h).1, (mask_yes (maskL_ok h o0 o1)).1, (mask_yes ho).1, (mask_yes (maskL_ok ho h3 h4)).1, maskL_comm _ _ _, he, (mask_yes (maskL_ok h i0 i1)).1, maskL_inv h2 h3 h4⟩
end Go.Proofs.Ythpgkngkmmameaa
