/-
  The contracts of TransferChips, isPlayer, l29Player, l29Can, l29Transfer. Conditions: at most 1048576 elements.
-/
import Derived.Test.YtoibjedpniepbaaOwn
import Derived.Test.YtoibjedpniepbaaPrizes
import Derived.Test.YtoibjedpniepbaaArg
namespace Go.Proofs.Ytoibjedpniepbaa
open Go.RowKit
set_option linter.unusedVariables false
theorem impl_isPlayer_c (A : Option Addr) (n c : Nat) (p : Int) (w : World) (hm : n ≤ 1048576) : Calls Try.prog 58 #[.slice A n c, .int .i64 p] w fun e w' => e = .returned (.bool (inB p 0 ((n : Int) - 1))) ∧ w = w' := by
  go_enter Try.func58, Try.ntmps58
  go_wp2_with (go_at_call 54; refine (impl_within_c _ _ _ _).mono ?_; rintro e w' ⟨rfl, rfl⟩)
  go_ret
  exact ⟨rfl, rfl⟩
theorem spec_l29Player_c (A : Option Addr) (n c : Nat) (p : Int) (w : World) (hm : n ≤ 1048576) : Calls Try.prog 66 #[.slice A n c, .int .i64 p] w fun e w' => e = .returned (.bool (inB p 0 ((n : Int) - 1))) ∧ w = w' := by
  go_enter Try.func66, Try.ntmps66
  go_wp2_with (go_at_call 53; refine (spec_l01In_c _ _ _ _).mono ?_; rintro e w' ⟨rfl, rfl⟩)
  go_ret
  exact ⟨rfl, rfl⟩
/-- The code of a transfer in a field. -/
def trC (S : List Int) (f t k : Int) : Int :=
  if inB f 0 ((S.length : Int) - 1) = false ∨ inB t 0 ((S.length : Int) - 1) = false ∨ k < 0 then 2
  else if f = t ∨ S.getD f.toNat 0 ≤ k ∨ 1000 < S.getD t.toNat 0 + k then 5 else 0
def trL (S : List Int) (f t k : Int) : List Int := (S.set f.toNat (S.getD f.toNat 0 - k)).set t.toNat ((S.set f.toNat (S.getD f.toNat 0 - k)).getD t.toNat 0 + k)
def trE (S : List Int) (f t k : Int) : Int := if fieldB S = true then trC S f t k else 1
def trV (S : List Int) (f t k : Int) : List Int := if trE S f t k = 0 then trL S f t k else []
theorem tr_len (S : List Int) (f t k : Int) : (trL S f t k).length = S.length := by simp [trL]
theorem player_nat {p : Int} {n : Nat} (h : inB p 0 ((n : Int) - 1) = true) : ∃ i : Nat, p = i ∧ i < n := ⟨p.toNat, by have := inB_iff.1 h; omega⟩
/-- What a field bears at an index. -/
theorem field_at {S : List Int} (h : fieldB S = true) {i : Nat} (hi : i < S.length) : ∃ x, S[i]? = some x ∧ S.getD i 0 = x ∧ 1 ≤ x ∧ x ≤ 1000 := by
  obtain ⟨h1, h2, h3⟩ := fieldB_iff.1 h
  refine ⟨S[i], List.getElem?_eq_getElem hi, by simp [List.getD, hi], ?_⟩
  exact h3 _ (List.getElem_mem hi)
set_option maxHeartbeats 2000000 in
theorem impl_TransferChips_c (A : Option Addr) (n c : Nat) (S : List Int) (f t k : Int) (w : World) (hn : S.length = n) (hm : n ≤ 1048576) (hr : RI w A S) (hk1 : k ≤ 9223372036854775807) (hk0 : -9223372036854775808 ≤ k) :
    Calls Try.prog 22 #[.slice A n c, .int .i64 f, .int .i64 t, .int .i64 k] w (LR w (trV S f t k) (trE S f t k)) := by
  subst hn
  cases h1 : fieldB S
  · have HE := Lib.hid (show trE S f t k = 1 by simp [trE, h1])
    have HV := Lib.hid (show trV S f t k = [] by simp [trV, trE, h1])
    go_enter Try.func22, Try.ntmps22
    go_wp2_with (go_at_call 17; refine (impl_IsField_c _ _ _ S _ rfl hm hr).mono ?_; rintro e w' ⟨rfl, rfl⟩)
    go_ret2
    rw [HV.out, HE.out]
    exact LR.mk rfl rfl (Nat.zero_le _) (OI.nil _ _ _ _) (Below.refl _ _)
  have hE : trE S f t k = trC S f t k := by simp [trE, h1]
  cases h2 : inB f 0 ((S.length : Int) - 1)
  · have HE := Lib.hid (show trE S f t k = 2 by simp [hE, trC, h2])
    have HV := Lib.hid (show trV S f t k = [] by simp [trV, HE.out])
    clear hE
    go_enter Try.func22, Try.ntmps22
    go_wp2_with (first
      | (go_at_call 17; refine (impl_IsField_c _ _ _ S _ rfl hm hr).mono ?_; rintro e w' ⟨rfl, rfl⟩)
      | (go_at_call 58; refine (impl_isPlayer_c _ _ _ _ _ hm).mono ?_; rintro e w' ⟨rfl, rfl⟩))
    go_ret2
    rw [HV.out, HE.out]
    exact LR.mk rfl rfl (Nat.zero_le _) (OI.nil _ _ _ _) (Below.refl _ _)
  cases h3 : inB t 0 ((S.length : Int) - 1)
  · have HE := Lib.hid (show trE S f t k = 2 by simp [hE, trC, h3])
    have HV := Lib.hid (show trV S f t k = [] by simp [trV, HE.out])
    clear hE
    go_enter Try.func22, Try.ntmps22
    go_wp2_with (first
      | (go_at_call 17; refine (impl_IsField_c _ _ _ S _ rfl hm hr).mono ?_; rintro e w' ⟨rfl, rfl⟩)
      | (go_at_call 58; refine (impl_isPlayer_c _ _ _ _ _ hm).mono ?_; rintro e w' ⟨rfl, rfl⟩))
    go_ret2
    rw [HV.out, HE.out]
    exact LR.mk rfl rfl (Nat.zero_le _) (OI.nil _ _ _ _) (Below.refl _ _)
  by_cases h4 : k < 0
  · have HE := Lib.hid (show trE S f t k = 2 by simp [hE, trC, h4])
    have HV := Lib.hid (show trV S f t k = [] by simp [trV, HE.out])
    clear hE
    go_enter Try.func22, Try.ntmps22
    go_wp2_with (first
      | (go_at_call 17; refine (impl_IsField_c _ _ _ S _ rfl hm hr).mono ?_; rintro e w' ⟨rfl, rfl⟩)
      | (go_at_call 58; refine (impl_isPlayer_c _ _ _ _ _ hm).mono ?_; rintro e w' ⟨rfl, rfl⟩))
    go_ret2
    rw [HV.out, HE.out]
    exact LR.mk rfl rfl (Nat.zero_le _) (OI.nil _ _ _ _) (Below.refl _ _)
  obtain ⟨i, rfl, hi⟩ := player_nat h2
  obtain ⟨j, rfl, hj⟩ := player_nat h3
  obtain ⟨x, hx, hxD, x0, x1⟩ := field_at h1 hi
  obtain ⟨y, hy, hyD, y0, y1⟩ := field_at h1 hj
  rcases hr.split with h0 | ⟨b, off, rfl, hb, hc⟩
  · omega
  have hcx := hc.out i x hx
  have hcy := hc.out j y hy
  have hC : trC S i j k = if (i : Int) = j ∨ x ≤ k ∨ 1000 < y + k then 5 else 0 := by
    unfold trC
    rw [if_neg (by rw [h2, h3]; simp; omega), Int.toNat_natCast, Int.toNat_natCast, hxD, hyD]
  have b1 : (i : Int) < (S.length : Int) := by omega
  have b2 : (0 : Int) ≤ (i : Int) := by omega
  have b3 : (j : Int) < (S.length : Int) := by omega
  have b4 : (0 : Int) ≤ (j : Int) := by omega
  by_cases hbad : (i : Int) = j ∨ x ≤ k ∨ 1000 < y + k
  · have HE := Lib.hid (show trE S i j k = 5 by rw [hE, hC, if_pos hbad])
    have HV := Lib.hid (show trV S i j k = [] by simp [trV, HE.out])
    clear hE hC
    have HX := Lib.hid hx
    have HY := Lib.hid hy
    clear hx hy hxD hyD
    by_cases h5 : (i : Int) = j
    · have h5' : ((i : Int) == (j : Int)) = true := by simp only [h5, beq_self_eq_true]
      clear hbad
      have h5n := Lib.hid h5
      clear h5
      go_enter Try.func22, Try.ntmps22
      go_wp2_with (first
        | (go_at_call 17; refine (impl_IsField_c _ _ _ S _ rfl hm hr).mono ?_; rintro e w' ⟨rfl, rfl⟩)
        | (go_at_call 58; refine (impl_isPlayer_c _ _ _ _ _ hm).mono ?_; rintro e w' ⟨rfl, rfl⟩))
      go_ret2
      rw [HV.out, HE.out]
      exact LR.mk rfl rfl (Nat.zero_le _) (OI.nil _ _ _ _) (Below.refl _ _)
    · have h5' : ((i : Int) == (j : Int)) = false := by simpa using h5
      by_cases h6 : x ≤ k
      · clear hbad
        go_enter Try.func22, Try.ntmps22
        go_wp2_with (first
          | (go_at_call 17; refine (impl_IsField_c _ _ _ S _ rfl hm hr).mono ?_; rintro e w' ⟨rfl, rfl⟩)
          | (go_at_call 58; refine (impl_isPlayer_c _ _ _ _ _ hm).mono ?_; rintro e w' ⟨rfl, rfl⟩))
        go_ret2
        rw [HV.out, HE.out]
        exact LR.mk rfl rfl (Nat.zero_le _) (OI.nil _ _ _ _) (Below.refl _ _)
      · have h7 : 1000 < y + k := by omega
        have hw : IntKind.i64.wrap (y + k) = y + k := by rw [IntKind.wrap_i64]; omega
        clear hbad
        go_enter Try.func22, Try.ntmps22
        go_wp2_with (first
          | (go_at_call 17; refine (impl_IsField_c _ _ _ S _ rfl hm hr).mono ?_; rintro e w' ⟨rfl, rfl⟩)
          | (go_at_call 58; refine (impl_isPlayer_c _ _ _ _ _ hm).mono ?_; rintro e w' ⟨rfl, rfl⟩))
        go_ret2
        rw [HV.out, HE.out]
        exact LR.mk rfl rfl (Nat.zero_le _) (OI.nil _ _ _ _) (Below.refl _ _)
  · have HE := Lib.hid (show trE S i j k = 0 by rw [hE, hC, if_neg hbad])
    have HV := Lib.hid (show trV S i j k = (S.set i (x - k)).set j (y + k) by
      have hij : ¬ i = j := fun e => hbad (.inl (by rw [e]))
      unfold trV trL
      rw [if_pos HE.out, Int.toNat_natCast, Int.toNat_natCast, hxD]
      congr 1
      rw [List.getD, List.getElem?_set_ne hij, hy]
      rfl)
    clear hE hC
    have h5 : ¬ (i : Int) = j := fun e => hbad (.inl e)
    have h5' : ((i : Int) == (j : Int)) = false := by simpa using h5
    have h6 : ¬ x ≤ k := fun e => hbad (.inr (.inl e))
    have h7 : ¬ 1000 < y + k := fun e => hbad (.inr (.inr e))
    have hw : IntKind.i64.wrap (y + k) = y + k := by rw [IntKind.wrap_i64]; omega
    have hij : i ≠ j := fun e => h5 (by rw [e])
    have H1 := Lib.hid (show (S.set i (x - k))[j]? = some y by rw [List.getElem?_set_ne hij]; exact hy)
    have HX := Lib.hid hx
    have HY := Lib.hid hy
    have hij' : ¬ j = i := fun e => hij e.symm
    clear hx hy hxD hyD hbad
    go_enter Try.func22, Try.ntmps22
    go_wp2_with (first
      | (go_at_call 17; refine (impl_IsField_c _ _ _ S _ rfl hm hr).mono ?_; rintro e w' ⟨rfl, rfl⟩)
      | (go_at_call 58; refine (impl_isPlayer_c _ _ _ _ _ hm).mono ?_; rintro e w' ⟨rfl, rfl⟩))
    refine (slices_Clone_c _ _ _ S _ rfl (by omega) hm hr).mono ?_
    rintro e w1 ⟨g, c1, rfl, o1, hb1⟩
    have o2 := o1.oi
    obtain ⟨cx, fx⟩ := o2.cellX HX.out
    have s1 := o2.set hi (x - k)
    obtain ⟨cy, fy⟩ := o2.cellX HY.out
    have s2 := s1.set (j := j) (by simpa using hj) (y + k)
    rw [Nat.zero_add] at cx fx cy fy s1 s2
    rw [Nat.zero_add, ← HV.out] at s2
    have hgl := (o2.lt (by omega)).1
    have HS := Lib.hid s2
    have HL := Lib.hid (show (trV S i j k).length = S.length by rw [HV.out]; simp)
    clear s1 s2
    go_wp2_with fail
    go_ret2
    rw [HE.out]
    refine LR.mk rfl HL.out hm ?_ ?_
    · exact HS.out.widen (Nat.le_refl _) (by simp [World.setCell])
    · exact (hb1.setCell (p := ⟨g, i, none⟩) hgl _).setCell (p := ⟨g, j, none⟩) hgl _
set_option maxHeartbeats 1000000 in
theorem spec_l29Can_c (A : Option Addr) (n c : Nat) (S : List Int) (f t k : Int) (w : World) (hn : S.length = n) (hm : n ≤ 1048576) (hr : RI w A S) (hF : fieldB S = true) (hk1 : k ≤ 9223372036854775807) (hk0 : -9223372036854775808 ≤ k) :
    Calls Try.prog 56 #[.slice A n c, .int .i64 f, .int .i64 t, .int .i64 k] w fun e w' => e = .returned (.int .i64 (trC S f t k)) ∧ w = w' := by
  subst hn
  cases h2 : inB f 0 ((S.length : Int) - 1)
  · have HE := Lib.hid (show trC S f t k = 2 by simp [trC, h2])
    go_enter Try.func56, Try.ntmps56
    go_wp2_with (go_at_call 66; refine (spec_l29Player_c _ _ _ _ _ hm).mono ?_; rintro e w' ⟨rfl, rfl⟩)
    go_ret
    exact ⟨ret_int HE.out.symm, rfl⟩
  cases h3 : inB t 0 ((S.length : Int) - 1)
  · have HE := Lib.hid (show trC S f t k = 2 by simp [trC, h3])
    go_enter Try.func56, Try.ntmps56
    go_wp2_with (go_at_call 66; refine (spec_l29Player_c _ _ _ _ _ hm).mono ?_; rintro e w' ⟨rfl, rfl⟩)
    go_ret
    exact ⟨ret_int HE.out.symm, rfl⟩
  by_cases h4 : k < 0
  · have HE := Lib.hid (show trC S f t k = 2 by simp [trC, h4])
    go_enter Try.func56, Try.ntmps56
    go_wp2_with (go_at_call 66; refine (spec_l29Player_c _ _ _ _ _ hm).mono ?_; rintro e w' ⟨rfl, rfl⟩)
    go_ret
    exact ⟨ret_int HE.out.symm, rfl⟩
  obtain ⟨i, rfl, hi⟩ := player_nat h2
  obtain ⟨j, rfl, hj⟩ := player_nat h3
  obtain ⟨x, hx, hxD, x0, x1⟩ := field_at hF hi
  obtain ⟨y, hy, hyD, y0, y1⟩ := field_at hF hj
  rcases hr.split with h0 | ⟨b, off, rfl, hb, hc⟩
  · omega
  have hcx := hc.out i x hx
  have hcy := hc.out j y hy
  have HC := Lib.hid (show trC S i j k = if (i : Int) = j ∨ x ≤ k ∨ 1000 < y + k then 5 else 0 by
    unfold trC
    rw [if_neg (by rw [h2, h3]; simp; omega), Int.toNat_natCast, Int.toNat_natCast, hxD, hyD])
  have b1 : (i : Int) < (S.length : Int) := by omega
  have b2 : (0 : Int) ≤ (i : Int) := by omega
  have b3 : (j : Int) < (S.length : Int) := by omega
  have b4 : (0 : Int) ≤ (j : Int) := by omega
  clear hx hy hxD hyD
  by_cases h5 : (i : Int) = j
  · have HE := Lib.hid (show trC S i j k = 5 by rw [HC.out, if_pos (.inl h5)])
    have h5' : ((i : Int) == (j : Int)) = true := by simp only [h5, beq_self_eq_true]
    clear h5
    go_enter Try.func56, Try.ntmps56
    go_wp2_with (go_at_call 66; refine (spec_l29Player_c _ _ _ _ _ hm).mono ?_; rintro e w' ⟨rfl, rfl⟩)
    go_ret
    exact ⟨ret_int HE.out.symm, rfl⟩
  have h5' : ((i : Int) == (j : Int)) = false := by simpa using h5
  by_cases h6 : x ≤ k
  · have HE := Lib.hid (show trC S i j k = 5 by rw [HC.out, if_pos (.inr (.inl h6))])
    go_enter Try.func56, Try.ntmps56
    go_wp2_with (go_at_call 66; refine (spec_l29Player_c _ _ _ _ _ hm).mono ?_; rintro e w' ⟨rfl, rfl⟩)
    go_ret
    exact ⟨ret_int HE.out.symm, rfl⟩
  have hw : IntKind.i64.wrap (y + k) = y + k := by rw [IntKind.wrap_i64]; omega
  by_cases h7 : 1000 < y + k
  · have HE := Lib.hid (show trC S i j k = 5 by rw [HC.out, if_pos (.inr (.inr h7))])
    go_enter Try.func56, Try.ntmps56
    go_wp2_with (go_at_call 66; refine (spec_l29Player_c _ _ _ _ _ hm).mono ?_; rintro e w' ⟨rfl, rfl⟩)
    go_ret
    exact ⟨ret_int HE.out.symm, rfl⟩
  · have HE := Lib.hid (show trC S i j k = 0 by rw [HC.out, if_neg (by omega)])
    go_enter Try.func56, Try.ntmps56
    go_wp2_with (go_at_call 66; refine (spec_l29Player_c _ _ _ _ _ hm).mono ?_; rintro e w' ⟨rfl, rfl⟩)
    go_ret
    exact ⟨ret_int HE.out.symm, rfl⟩
/-- What a transfer that can be made bears. -/
theorem tr_ok {S : List Int} {f t k : Int} (hF : fieldB S = true) (h : trC S f t k = 0) : ∃ (i j : Nat) (x y : Int), f = i ∧ t = j ∧ i < S.length ∧ j < S.length ∧ i ≠ j ∧ S[i]? = some x ∧ S[j]? = some y ∧ 0 ≤ k ∧ k < x ∧ y + k ≤ 1000 ∧ 1 ≤ x ∧ x ≤ 1000 ∧ 1 ≤ y ∧ y ≤ 1000 ∧ trL S f t k = (S.set i (x - k)).set j (y + k) := by
  unfold trC at h
  split at h
  · omega
  · next h1 =>
    split at h
    · omega
    · next h2 =>
      have hf : inB f 0 ((S.length : Int) - 1) = true := by cases hc : inB f 0 ((S.length : Int) - 1) with | true => rfl | false => exact absurd (.inl hc) h1
      have ht : inB t 0 ((S.length : Int) - 1) = true := by cases hc : inB t 0 ((S.length : Int) - 1) with | true => rfl | false => exact absurd (.inr (.inl hc)) h1
      obtain ⟨i, rfl, hi⟩ := player_nat hf
      obtain ⟨j, rfl, hj⟩ := player_nat ht
      obtain ⟨x, hx, hxD, x0, x1⟩ := field_at hF hi
      obtain ⟨y, hy, hyD, y0, y1⟩ := field_at hF hj
      rw [Int.toNat_natCast, Int.toNat_natCast, hxD, hyD] at h2
      have hij : ¬ i = j := fun e => h2 (.inl (by rw [e]))
      refine ⟨i, j, x, y, rfl, rfl, hi, hj, hij, hx, hy, by omega, by omega, by omega, x0, x1, y0, y1, ?_⟩
      unfold trL
      rw [Int.toNat_natCast, Int.toNat_natCast, hxD]
      congr 1
      rw [List.getD, List.getElem?_set_ne hij, hy]
      rfl
set_option maxHeartbeats 1000000 in
theorem spec_l29Transfer_c (A : Option Addr) (n c : Nat) (S : List Int) (f t k : Int) (w : World) (hn : S.length = n) (hm : n ≤ 1048576) (hr : RI w A S) (hF : fieldB S = true) (h0 : trC S f t k = 0) :
    Calls Try.prog 57 #[.slice A n c, .int .i64 f, .int .i64 t, .int .i64 k] w (SL w n (trL S f t k)) := by
  subst hn
  obtain ⟨i, j, x, y, rfl, rfl, hi, hj, hij, hx, hy, k0, k1, k2, x0, x1, y0, y1, hL⟩ := tr_ok hF h0
  have HL := Lib.hid hL
  have HX := Lib.hid hx
  have HY := Lib.hid hy
  have hij' : ¬ j = i := fun e => hij e.symm
  have b1 : (i : Int) < (S.length : Int) := by omega
  have b2 : (0 : Int) ≤ (i : Int) := by omega
  have b3 : (j : Int) < (S.length : Int) := by omega
  have b4 : (0 : Int) ≤ (j : Int) := by omega
  clear hx hy hL h0
  go_enter Try.func57, Try.ntmps57
  go_wp2_with fail
  refine (spec_l01Own_c _ _ _ S _ rfl (by omega) hm hr).mono ?_
  rintro e w1 ⟨g, c1, rfl, o1, hb1⟩
  have o2 := o1.oi
  obtain ⟨cx, fx⟩ := o2.cellX HX.out
  have s1 := o2.set hi (x - k)
  obtain ⟨cy, fy⟩ := o2.cellX HY.out
  have s2 := s1.set (j := j) (by simpa using hj) (y + k)
  rw [Nat.zero_add] at cx fx cy fy s1 s2
  rw [Nat.zero_add, ← HL.out] at s2
  have hgl := (o2.lt (by omega)).1
  have HS := Lib.hid s2
  clear s1 s2
  go_wp2_with fail
  go_ret
  refine ⟨g, c1, rfl, ?_, ?_⟩
  · exact HS.out.widen (Nat.le_refl _) (by simp [World.setCell])
  · exact (hb1.setCell (p := ⟨g, i, none⟩) hgl _).setCell (p := ⟨g, j, none⟩) hgl _
theorem spec_TransferChips_c (A : Option Addr) (n c : Nat) (S : List Int) (f t k : Int) (w : World) (hn : S.length = n) (hm : n ≤ 1048576) (hr : RI w A S) (hk1 : k ≤ 9223372036854775807) (hk0 : -9223372036854775808 ≤ k) :
    Calls Try.prog 21 #[.slice A n c, .int .i64 f, .int .i64 t, .int .i64 k] w (LR w (trV S f t k) (trE S f t k)) := by
  subst hn
  cases h1 : fieldB S
  · have HE := Lib.hid (show trE S f t k = 1 by simp [trE, h1])
    have HV := Lib.hid (show trV S f t k = [] by simp [trV, trE, h1])
    go_enter Try.func21, Try.ntmps21
    go_wp2_with (go_at_call 15; refine (spec_IsField_c _ _ _ S _ rfl hm hr).mono ?_; rintro e w' ⟨rfl, rfl⟩)
    go_ret2
    rw [HV.out, HE.out]
    exact LR.mk rfl rfl (Nat.zero_le _) (OI.nil _ _ _ _) (Below.refl _ _)
  have HE := Lib.hid (show trE S f t k = trC S f t k by simp [trE, h1])
  by_cases h0 : trC S f t k = 0
  · have HV := Lib.hid (show trV S f t k = trL S f t k by simp [trV, HE.out, h0])
    have H0 := Lib.hid h0
    have hq : (trC S f t k != 0) = false := by simp [h0]
    clear h0
    go_enter Try.func21, Try.ntmps21
    go_wp2_with (first
      | (go_at_call 15; refine (spec_IsField_c _ _ _ S _ rfl hm hr).mono ?_; rintro e w' ⟨rfl, rfl⟩)
      | (go_at_call 56; refine (spec_l29Can_c _ _ _ S _ _ _ _ rfl hm hr h1 hk1 hk0).mono ?_; rintro e w' ⟨rfl, rfl⟩))
    refine (spec_l29Transfer_c _ _ _ S _ _ _ _ rfl hm hr h1 H0.out).mono ?_
    rintro e w1 ⟨g, c1, rfl, ho, hb⟩
    go_wp2_with fail
    go_ret2
    rw [HV.out, HE.out, H0.out]
    exact LR.mk rfl (tr_len _ _ _ _) hm ho hb
  · have HV := Lib.hid (show trV S f t k = [] by simp [trV, HE.out, h0])
    have hq : (trC S f t k != 0) = true := by simp [h0]
    clear h0
    go_enter Try.func21, Try.ntmps21
    go_wp2_with (first
      | (go_at_call 15; refine (spec_IsField_c _ _ _ S _ rfl hm hr).mono ?_; rintro e w' ⟨rfl, rfl⟩)
      | (go_at_call 56; refine (spec_l29Can_c _ _ _ S _ _ _ _ rfl hm hr h1 hk1 hk0).mono ?_; rintro e w' ⟨rfl, rfl⟩))
    go_ret2
    rw [HV.out, HE.out]
    exact LR.mk rfl rfl (Nat.zero_le _) (OI.nil _ _ _ _) (Below.refl _ _)
end Go.Proofs.Ytoibjedpniepbaa
