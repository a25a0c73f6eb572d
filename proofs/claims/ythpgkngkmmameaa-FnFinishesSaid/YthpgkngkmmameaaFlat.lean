/-
  The contracts of FlatShares. Conditions: none.
-/
import Derived.Test.YthpgkngkmmameaaDivide
import Derived.Test.YthpgkngkmmameaaPair
import Derived.Test.YthpgkngkmmameaaArg
namespace Go.Proofs.Ythpgkngkmmameaa
open Go.RowKit
set_option linter.unusedVariables false
theorem ones_ok {u : Int} {n : Nat} (h0 : 0 ≤ u) (h1 : u ≤ 10000000) (h2 : 1 ≤ n) (h3 : n ≤ 1000) : DivOk u (List.replicate n 1) := by
  refine ⟨h0, h1, fun x hx => ?_, ?_, by simpa using h3⟩
  · have := List.eq_of_mem_replicate hx; omega
  · rw [← sumD_sumL, sumD_ones]; omega
def fsV (p : Int) : List Int := if inB p 1 12 = true then flatL 1000 p.toNat else []
def fsE (p : Int) : Int := if inB p 1 12 = true then 0 else 2
theorem flat_len (u : Int) (n : Nat) : (flatL u n).length = n := by simp [flatL]
theorem impl_FlatShares_c (p : Int) (w : World) : Calls Try.prog 64 #[.int .i64 p] w (LR w (fsV p) (fsE p)) := by
  cases h1 : inB p 1 12
  · have HV := Lib.hid (show fsV p = [] by simp [fsV, h1])
    have HE := Lib.hid (show fsE p = 2 by simp [fsE, h1])
    go_enter Try.func64, Try.ntmps64
    go_wp2_with (go_at_call 94; refine (impl_within_c _ _ _ _).mono ?_; rintro e w' ⟨rfl, rfl⟩)
    go_ret2
    rw [HV.out, HE.out]
    exact LR.mk rfl rfl (Nat.zero_le _) (OI.nil _ _ _ _) (Below.refl _ _)
  obtain ⟨m, rfl⟩ : ∃ m : Nat, p = m := ⟨p.toNat, by have := inB_iff.1 h1; omega⟩
  have hk := inB_iff.1 h1
  have hok := ones_ok (u := 1000) (n := m) (by omega) (by omega) (by omega) (by omega)
  have HF := Lib.hid (flat_law (u := 1000) (n := m) (by omega) (by omega))
  have HV := Lib.hid (show fsV m = flatL 1000 m by simp [fsV, h1])
  have HE := Lib.hid (show fsE m = 0 by simp [fsE, h1])
  have hm : m ≤ 1048576 := by omega
  go_enter Try.func64, Try.ntmps64
  go_wp2_with (go_at_call 94; refine (impl_within_c _ _ _ _).mono ?_; rintro e w' ⟨rfl, rfl⟩)
  refine (impl_equalWeights_c m _ hm).mono ?_
  rintro e w1 ⟨g1, rfl, o1, b1⟩
  go_wp2_with fail
  refine (impl_divided_c _ _ _ _ (List.replicate m 1) _ (by simp) (by omega) o1.ri hok).mono ?_
  rintro e w2 ⟨g, rfl, ho, hb⟩
  rw [HF.out] at ho
  go_wp2_with fail
  go_ret2
  rw [HV.out, HE.out]
  exact LR.mk rfl (flat_len _ _) hm (ho.widen b1.size (Nat.le_refl _)) (below_step b1 hb b1.size)
theorem flat_step {u : Int} {n k : Nat} (hk : k < n) : (flatL u n).take (k + 1) = (flatL u n).take k ++ [u / n + if (k : Int) < u % n then 1 else 0] := by
  rw [List.take_add_one]
  congr 1
  unfold flatL
  rw [List.getElem?_map, List.getElem?_range hk]
  rfl
theorem spec_l31Flat_c (m : Nat) (w : World) (h1 : 1 ≤ m) (h2 : m ≤ 1000) :
    Calls Try.prog 117 #[.int .i64 m] w fun e w' => ∃ g c', e = .returned (.slice (some ⟨g, 0, none⟩) m c') ∧ Row w' w.heap.size (some ⟨g, 0, none⟩) m c' (flatL 1000 m) ∧ Below w.heap.size w w' := by
  have e1 : (1000 : Int).tdiv m = 1000 / m := Int.tdiv_eq_ediv_of_nonneg (by omega)
  have e2 : (1000 : Int).tmod m = 1000 % m := Int.tmod_eq_emod_of_nonneg (by omega)
  have q0 : 0 ≤ (1000 : Int) / m := Int.ediv_nonneg (by omega) (by omega)
  have q1 : (1000 : Int) / m ≤ 1000 := Int.ediv_le_self _ (by omega)
  have r0 : 0 ≤ (1000 : Int) % m := Int.emod_nonneg _ (by omega)
  have r1 : (1000 : Int) % m < m := Int.emod_lt_of_pos _ (by omega)
  have hne : ¬ (m : Int) = 0 := by omega
  go_enter Try.func117, Try.ntmps117
  go_wp2_with fail
  go_loopw [3, 4] (fun o i wr => ∃ k g c', o = .slice (some ⟨g, 0, none⟩) k c' ∧ i = .int .i64 (k : Nat) ∧ k ≤ m ∧ Row wr w.heap.size (some ⟨g, 0, none⟩) k c' ((flatL 1000 m).take k) ∧ Below w.heap.size w wr) (fun _ i _ => m - (intOf i).toNat)
  case atStart => exact ⟨0, _, _, rfl, rfl, Nat.zero_le _, Row.empty w (Nat.le_refl _), (Below.refl _ _).alloc (Nat.le_refl _) _⟩
  case round =>
    obtain ⟨k, g, c', rfl, rfl, hk, ho, hbr⟩ := hrel
    have hsz := hbr.size
    by_cases hlt : k < m
    · have b1 : (k : Int) < (m : Int) := by omega
      have HS := Lib.hid (flat_step (u := 1000) hlt)
      by_cases hc : (k : Int) < 1000 % m
      · have HC := Lib.hid (show (1000 : Int) / m + (if (k : Int) < 1000 % m then 1 else 0) = 1000 / m + 1 by rw [if_pos hc])
        go_wp2_with (at_builtin; refine wpList_append1 rfl _ _ rfl w.heap.size (some ⟨g, 0, none⟩) k c' _ rfl (Row.alloc ho _) wr.heap.size 1 ((1000 : Int) / m + 1) rfl (by simp) (by omega) (by simp; omega) ?_; intro g2 c2 w2 hr2 hb2 hg2)
        go_roundw
        case rel => exact ⟨k + 1, g2, c2, rfl, by go_num, by omega, by rw [HS.out, HC.out]; exact hr2, (hbr.alloc (by omega) _).trans hb2⟩
        case measure => simp [intOf]; omega
      · have HC := Lib.hid (show (1000 : Int) / m + (if (k : Int) < 1000 % m then 1 else 0) = 1000 / m by rw [if_neg hc]; omega)
        go_wp2_with (at_builtin; refine wpList_append1 rfl _ _ rfl w.heap.size (some ⟨g, 0, none⟩) k c' _ rfl (Row.alloc ho _) wr.heap.size 1 ((1000 : Int) / m) rfl (by simp) (by omega) (by simp; omega) ?_; intro g2 c2 w2 hr2 hb2 hg2)
        go_roundw
        case rel => exact ⟨k + 1, g2, c2, rfl, by go_num, by omega, by rw [HS.out, HC.out]; exact hr2, (hbr.alloc (by omega) _).trans hb2⟩
        case measure => simp [intOf]; omega
    · obtain rfl : k = m := by omega
      rw [List.take_of_length_le (by rw [flat_len]; omega)] at ho
      go_wp2_with fail
      go_ret
      exact ⟨g, c', rfl, ho, hbr⟩
theorem spec_FlatShares_c (p : Int) (w : World) : Calls Try.prog 65 #[.int .i64 p] w (LR w (fsV p) (fsE p)) := by
  cases h1 : inB p 1 12
  · have HV := Lib.hid (show fsV p = [] by simp [fsV, h1])
    have HE := Lib.hid (show fsE p = 2 by simp [fsE, h1])
    go_enter Try.func65, Try.ntmps65
    go_wp2_with (go_at_call 98; refine (spec_l01In_c _ _ _ _).mono ?_; rintro e w' ⟨rfl, rfl⟩)
    go_ret2
    rw [HV.out, HE.out]
    exact LR.mk rfl rfl (Nat.zero_le _) (OI.nil _ _ _ _) (Below.refl _ _)
  obtain ⟨m, rfl⟩ : ∃ m : Nat, p = m := ⟨p.toNat, by have := inB_iff.1 h1; omega⟩
  have hk := inB_iff.1 h1
  have HV := Lib.hid (show fsV m = flatL 1000 m by simp [fsV, h1])
  have HE := Lib.hid (show fsE m = 0 by simp [fsE, h1])
  have hm : m ≤ 1048576 := by omega
  go_enter Try.func65, Try.ntmps65
  go_wp2_with (go_at_call 98; refine (spec_l01In_c _ _ _ _).mono ?_; rintro e w' ⟨rfl, rfl⟩)
  refine (spec_l31Flat_c m _ (by omega) (by omega)).mono ?_
  rintro e w1 ⟨g1, c1, rfl, o1, b1⟩
  go_wp2_with fail
  go_ret2
  rw [HV.out, HE.out]
  exact LR.mk rfl (flat_len _ _) hm o1.oi b1
end Go.Proofs.Ythpgkngkmmameaa
