/-
  The reference's reading of a plain numeral: spec.l01Value. Conditions: a text of at most 1048576 bytes.
-/
import Derived.Test.YtieniogfnhhlbaaDoorDec
import Derived.LoopTactic
namespace Go.Proofs.YtieniogfnhhlbaaDoor
open Go.RowKit
set_option linter.unusedVariables false
theorem take_dig (l : List UInt8) (k : Nat) (hk : k < l.length) : isDig (l.take (k + 1)) = (isDig (l.take k) && (decide (48 ≤ l[k].toNat) && decide (l[k].toNat ≤ 57))) := by
  rw [List.take_succ_eq_append_getElem hk, isDig_append]; simp [isDig]
theorem take_val (l : List UInt8) (k : Nat) (hk : k < l.length) : valFrom 0 (l.take (k + 1)) = stp (valFrom 0 (l.take k)) l[k] := by
  rw [List.take_succ_eq_append_getElem hk, valFrom_snoc]
theorem dig_take (l : List UInt8) (k : Nat) (h : isDig l = true) : isDig (l.take k) = true := by
  unfold isDig at *
  rw [List.all_eq_true] at *
  exact fun x hx => h x (List.mem_of_mem_take hx)
/-- What reading a plain numeral hands back. -/
def PlainAt (r : Option Int) (w : World) (e : Ending) (w' : World) : Prop :=
  (∃ n : Int, e = .returned (.tuple #[.int .i64 (r.getD n), .bool r.isSome])) ∧ Below w.heap.size w w'
set_option maxHeartbeats 4000000 in
theorem spec_l01Value_c (s : ByteArray) (w : World) (hs : s.size ≤ 1048576) :
    Calls Tryd.prog 12 #[.string s] w (PlainAt (plainOf s.data.toList) w) := by
  have hlen : s.data.toList.length = s.size := Array.length_toList
  have HLEN := Lib.hid hlen
  by_cases h1 : s.size < 1
  · have hp : plainOf s.data.toList = none := plainOf_no (by rintro ⟨_, h2⟩; have h3 := (decDigits_dig (valFrom 0 s.data.toList)).2.2; rw [h2] at h3; exact h3 (List.eq_nil_of_length_eq_zero (by omega)))
    rw [hp]
    clear hlen hp
    have h1' : (s.size : Int) < 1 := by omega
    go_enter Tryd.func12, Tryd.ntmps12
    go_wp2_with fail
    go_ret2
    exact ⟨⟨0, rfl⟩, Below.refl _ _⟩
  by_cases h10 : 10 < s.size
  · have hp : plainOf s.data.toList = none := plainOf_no (by rintro ⟨h2, _⟩; omega)
    rw [hp]
    clear hlen hp
    have h1' : ¬ (s.size : Int) < 1 := by omega
    have h10' : (10 : Int) < (s.size : Int) := by omega
    go_enter Tryd.func12, Tryd.ntmps12
    go_wp2_with fail
    go_ret2
    exact ⟨⟨0, rfl⟩, Below.refl _ _⟩
  have h1' : ¬ (s.size : Int) < 1 := by omega
  have h10' : ¬ (10 : Int) < (s.size : Int) := by omega
  generalize hp : plainOf s.data.toList = r
  have HP := Lib.hid hp
  clear hp hlen
  go_enter Tryd.func12, Tryd.ntmps12
  go_wp2_with fail
  go_loop [4, 5] (fun n i => ∃ k : Nat, i = .int .i64 k ∧ k ≤ s.size ∧ isDig (s.data.toList.take k) = true ∧ ∃ V : Nat, V = valFrom 0 (s.data.toList.take k) ∧ n = .int .i64 V) (fun _ i => s.size - (intOf i).toNat)
  case atStart => exact ⟨0, rfl, Nat.zero_le _, rfl, 0, rfl, rfl⟩
  case round =>
    obtain ⟨k, rfl, hk, hd, V, hV, rfl⟩ := hrel
    have HD := Lib.hid hd
    have hv : V < 10000000000 := by rw [hV]; exact val_ten _ hd (by have := List.length_take_le k s.data.toList; omega)
    have HW := Lib.hid hV
    clear hd hV
    by_cases hlt : k < s.size
    · by_cases ha : 48 ≤ s[k].toNat
      · by_cases hb : s[k].toNat ≤ 57
        · have g1 : ¬ (s[k].toNat : Int) < 48 := by omega
          have g2 : ¬ (57 : Int) < (s[k].toNat : Int) := by omega
          have hkl : k < s.data.toList.length := by rw [HLEN.out]; exact hlt
          have HV := Lib.hid (show valFrom 0 (s.data.toList.take (k + 1)) = stp (valFrom 0 (s.data.toList.take k)) s[k] from take_val s.data.toList k hkl)
          have HDD := Lib.hid (show isDig (s.data.toList.take (k + 1)) = true by
            rw [take_dig _ _ hkl, HD.out]
            have e : s.data.toList[k] = s[k] := rfl
            rw [e]; simp [ha, hb])
          go_wp2_with fail
          go_round
          case rel => exact ⟨k + 1, by go_num, by omega, HDD.out, stp V s[k], by rw [HW.out, HV.out], by rw [stp_eq]; go_num⟩
          case measure => simp [intOf]; omega
        · have hkl : k < s.data.toList.length := by rw [HLEN.out]; exact hlt
          have HN := Lib.hid (show plainOf s.data.toList = none from plainOf_bad (by
            cases h : isDig s.data.toList with
            | false => rfl
            | true =>
              have := dig_take _ (k + 1) h
              rw [take_dig _ _ hkl] at this
              have e : s.data.toList[k] = s[k] := rfl
              rw [e] at this
              simp [hb] at this))
          clear hkl
          have g1 : ¬ (s[k].toNat : Int) < 48 := by omega
          have g2 : (57 : Int) < (s[k].toNat : Int) := by omega
          go_wp2_with fail
          go_ret2
          rw [← HP.out, HN.out]
          exact ⟨⟨0, rfl⟩, Below.refl _ _⟩
      · have hkl : k < s.data.toList.length := by rw [HLEN.out]; exact hlt
        have HN := Lib.hid (show plainOf s.data.toList = none from plainOf_bad (by
          cases h : isDig s.data.toList with
          | false => rfl
          | true =>
            have := dig_take _ (k + 1) h
            rw [take_dig _ _ hkl] at this
            have e : s.data.toList[k] = s[k] := rfl
            rw [e] at this
            simp [ha] at this))
        clear hkl
        have g1 : (s[k].toNat : Int) < 48 := by omega
        go_wp2_with fail
        go_ret2
        rw [← HP.out, HN.out]
        exact ⟨⟨0, rfl⟩, Below.refl _ _⟩
    · have hkl : k = s.data.toList.length := by rw [HLEN.out]; omega
      have HW := Lib.hid (show V = valFrom 0 s.data.toList by rw [HW.out, List.take_of_length_le (by omega)])
      clear hkl
      have hcall := fun w => spec_l01Dec_c V V w (Nat.le_refl _) (by omega)
      unfold txt at hcall
      by_cases hD : Lib.decDigits V = s.data.toList
      · have HN := Lib.hid (show plainOf s.data.toList = some (V : Int) by rw [HW.out] at hD ⊢; exact plainOf_yes (by rw [HLEN.out]; omega) hD)
        have hS : (Lib.decDigits V == s.toList) = true := by rw [ByteArray.toList_eq]; simpa using hD
        clear hD
        go_wp2_with (go_at_call 15; refine (hcall _).mono ?_; rintro e w1 ⟨rfl, hb1⟩; have HB := Lib.hid hb1; clear hb1)
        go_ret2
        rw [← HP.out, HN.out]
        exact ⟨⟨0, rfl⟩, HB.out⟩
      · have HN := Lib.hid (show plainOf s.data.toList = none by rw [HW.out] at hD; exact plainOf_no (fun h => hD h.2))
        have hS : (Lib.decDigits V == s.toList) = false := by rw [ByteArray.toList_eq]; simpa using hD
        clear hD
        go_wp2_with (go_at_call 15; refine (hcall _).mono ?_; rintro e w1 ⟨rfl, hb1⟩; have HB := Lib.hid hb1; clear hb1)
        go_ret2
        rw [← HP.out, HN.out]
        exact ⟨⟨V, rfl⟩, HB.out⟩
end Go.Proofs.YtieniogfnhhlbaaDoor
