/-
  The program's reading of a console line: impl.IsConsoleLine; it says what the reference says. Conditions: a line of at most 1048576 bytes; the library's variables as laid.
-/
import Derived.Test.YtieniogfnhhlbaaDoorPlainNum
namespace Go.Proofs.YtieniogfnhhlbaaDoor
open Go.RowKit
set_option linter.unusedVariables false
theorem wordsOf_eq (l : List UInt8) : wordsOf l = if kindOf l < 0 then -1 else kindOf l % 10 + 1 := rfl
theorem split_c (s : ByteArray) (c : UInt8) (w : World) (hs : s.size ≤ 1048576) (hl : LibOk w) :
    Calls Tryd.prog 7 #[.string s, .string ⟨#[c]⟩] w fun e w' => e = .returned (.slice (some ⟨w.heap.size, 0, none⟩) (spl c s.data.toList).length (spl c s.data.toList).length) ∧ w' = w.alloc (.cells ((spl c s.data.toList).map txt).toArray 9) := by
  obtain ⟨m, hm⟩ := hl.ml
  refine (Tryd.strings_Split s ⟨#[c]⟩ m w (by omega) hm (Nat.le_refl 1)).mono fun e w' ⟨h1, h2⟩ => ⟨?_, ?_⟩
  · rw [h1, countB_one]
  · rw [h2, map_txt, splitB_one]
set_option maxHeartbeats 4000000 in
theorem impl_IsConsoleLine_c (s : ByteArray) (w : World) (hs : s.size ≤ 1048576) (hl : LibOk w) : Calls Tryd.prog 5 #[.string s] w fun e w' => e = .returned (.bool (parseL s.data.toList).isSome) ∧ Below w.heap.size w w' := by
  have hlen : s.data.toList.length = s.size := Array.length_toList
  have hwl := spl_length_le 32 s.data.toList
  have hw0 : 0 < (spl 32 s.data.toList).length := List.length_pos_iff.2 (spl_ne 32 _)
  have hparts := Lib.hid (spl_part 32 s.data.toList)
  have hsplit := split_c s 32 w hs hl
  generalize hL : s.data.toList = L at *
  have HL := Lib.hid hL
  have hword : (spl 32 L)[0]? = some (word0 L) := by
    unfold word0
    cases h : spl 32 L with
    | nil => exact absurd h (spl_ne 32 L)
    | cons a b => rfl
  have hc0 : (w.alloc (.cells ((spl 32 L).map txt).toArray 9)).cell? ⟨w.heap.size, 0, none⟩ = some (.string ⟨(word0 L).toArray⟩) := by
    unfold World.cell?
    rw [heap_alloc_new]
    simp [hword, txt]
  have HRV := Lib.hid (RV.new w ((spl 32 L).map txt) 9)
  have HB := Lib.hid ((Below.refl w.heap.size w).alloc (Nat.le_refl _) (.cells ((spl 32 L).map txt).toArray 9))
  have HL1 := Lib.hid (hl.alloc (.cells ((spl 32 L).map txt).toArray 9))
  have HW1 := Lib.hid (show w.heap.size ≤ (w.alloc (.cells ((spl 32 L).map txt).toArray 9)).heap.size by simp)
  clear hword
  have hwords : ∀ w, Calls Tryd.prog 8 #[.string ⟨(word0 L).toArray⟩] w fun e w' => e = .returned (.int .i64 (wordsOf (word0 L))) ∧ w = w' := fun w => impl_commandWords_c ⟨(word0 L).toArray⟩ w
  have HRP := Lib.hid fun (A : Option Addr) (c : Nat) (xs : List (List UInt8)) (hx : xs.length ≤ 10000000) (hr : RV (w.alloc (.cells ((spl 32 L).map txt).toArray 9)) A (xs.map txt)) (hp : ∀ x ∈ xs, x.length ≤ 1048576) => impl_readPlains_c A xs.length c xs (w.alloc (.cells ((spl 32 L).map txt).toArray 9)) rfl hx hr hp HL1.out
  generalize hW : w.alloc (.cells ((spl 32 L).map txt).toArray 9) = W at *
  generalize hn : (spl 32 L).length = n at *
  have HN := Lib.hid hn
  have HWW := Lib.hid hW
  clear hL hn hW
  rcases kindOf_cases (word0 L) with hk | hk | hk | hk | hk
  · have HP := Lib.hid (show parseL L = none by unfold parseL; rw [if_pos (.inl (by rw [hk]; decide))])
    have hv : wordsOf (word0 L) = -1 := by rw [wordsOf_eq, hk]; first | done | rfl
    have hne : ((n : Int) == -1) = false := by first | (simp; done) | (simp; omega)
    rw [HP.out]
    rw [hv] at hwords
    clear hk hv
    go_enter Tryd.func5, Tryd.ntmps5
    go_wp2_with (first
      | (go_at_call 7; refine hsplit.mono ?_; rintro e w1 ⟨rfl, rfl⟩)
      | (go_at_call 8; refine (hwords _).mono ?_; rintro e w2 ⟨rfl, rfl⟩))
    go_ret
    exact ⟨rfl, HB.out⟩
  · by_cases hm : n = 1
    · subst hm
      have HP := Lib.hid (show (parseL L).isSome = true by
        unfold parseL
        rw [if_neg (by rw [hk, HN.out]; decide)]
        rw [if_pos (by rw [hk]; decide)]
        cases h : spl 32 L with
        | nil => exact absurd h (spl_ne 32 L)
        | cons a b =>
          have h1 := HN.out
          rw [h] at h1
          have : b = [] := List.eq_nil_of_length_eq_zero (by simpa using h1)
          subst this
          rfl)
      have hv : wordsOf (word0 L) = 1 := by rw [wordsOf_eq, hk]; first | done | rfl
      obtain ⟨n1, n2⟩ := kindOf_not (l := word0 L) (by rw [hk]; decide)
      rw [HP.out]
      rw [hv] at hwords
      clear hk hv
      go_enter Tryd.func5, Tryd.ntmps5
      go_wp2_with (first
      | (go_at_call 7; refine hsplit.mono ?_; rintro e w1 ⟨rfl, rfl⟩)
      | (go_at_call 8; refine (hwords _).mono ?_; rintro e w2 ⟨rfl, rfl⟩))
      go_ret
      exact ⟨rfl, HB.out⟩
    · have HP := Lib.hid (show parseL L = none by unfold parseL; rw [if_pos (.inr (by rw [hk, HN.out]; omega))])
      have hv : wordsOf (word0 L) = 1 := by rw [wordsOf_eq, hk]; first | done | rfl
      have hne : ((n : Int) == 1) = false := by simp; omega
      rw [HP.out]
      rw [hv] at hwords
      clear hk hv
      go_enter Tryd.func5, Tryd.ntmps5
      go_wp2_with (first
      | (go_at_call 7; refine hsplit.mono ?_; rintro e w1 ⟨rfl, rfl⟩)
      | (go_at_call 8; refine (hwords _).mono ?_; rintro e w2 ⟨rfl, rfl⟩))
      go_ret
      exact ⟨rfl, HB.out⟩
  · by_cases hm : n = 3
    · subst hm
      have HP := Lib.hid (show (parseL L).isSome = (plainsOf (spl 32 L).tail).isSome by
        unfold parseL
        rw [if_neg (by rw [hk, HN.out]; decide), if_pos (by rw [hk]; decide)]
        cases plainsOf (spl 32 L).tail <;> rfl)
      have hv : wordsOf (word0 L) = 3 := by rw [wordsOf_eq, hk]; first | done | rfl
      have hrv : RV W (some ⟨w.heap.size, 1, none⟩) ((spl 32 L).tail.map txt) := by
        have h1 := HRV.out
        have h2 := HN.out
        cases h : spl 32 L with
        | nil => exact absurd h (spl_ne 32 L)
        | cons a b =>
          rw [h] at h1 h2
          have h3 := RV.drop1 (cap := 3) h1 (by simp at h2 ⊢; omega)
          exact h3
      have hcall := HRP.out (some ⟨w.heap.size, 1, none⟩) 2 (spl 32 L).tail (by rw [List.length_tail, HN.out]; decide) hrv (fun x hx => by have := hparts.out x (List.mem_of_mem_tail hx); omega)
      rw [List.length_tail, HN.out] at hcall
      have hcall : Calls Tryd.prog 9 #[.slice (some ⟨w.heap.size, 1, none⟩) 2 2] W (PlainsAt (plainsOf (spl 32 L).tail) W) := hcall
      rw [HP.out]
      rw [hv] at hwords
      have h2 := kindOf_two hk
      clear hk hv hrv
      generalize plainsOf (spl 32 L).tail = r at *
      rcases h2 with h2 | h2
      all_goals
        rw [h2] at hc0 hwords
        clear h2
        cases r with
        | none =>
          have hcall : Calls Tryd.prog 9 #[.slice (some ⟨w.heap.size, 1, none⟩) 2 2] W fun e w' => e = .returned (.tuple #[.slice none 0 0, .bool false]) ∧ Below W.heap.size W w' := hcall
          go_enter Tryd.func5, Tryd.ntmps5
          go_wp2_with (first
            | (go_at_call 7; refine hsplit.mono ?_; rintro e w1 ⟨rfl, rfl⟩)
            | (go_at_call 8; refine (hwords _).mono ?_; rintro e w2 ⟨rfl, rfl⟩)
            | (go_at_call 9; refine hcall.mono ?_; rintro e w3 ⟨rfl, hb3⟩; have HB3 := Lib.hid hb3; clear hb3))
          go_ret
          exact ⟨rfl, HB.out.trans (HB3.out.mono HW1.out)⟩
        | some ns =>
          have hcall : Calls Tryd.prog 9 #[.slice (some ⟨w.heap.size, 1, none⟩) 2 2] W fun e w' => (∃ B k d, e = .returned (.tuple #[.slice B k d, .bool true])) ∧ Below W.heap.size W w' := hcall.mono fun e w' h => by
            obtain ⟨⟨B, d, h1, _⟩, h2⟩ := h
            exact ⟨⟨_, _, _, h1⟩, h2⟩
          go_enter Tryd.func5, Tryd.ntmps5
          go_wp2_with (first
            | (go_at_call 7; refine hsplit.mono ?_; rintro e w1 ⟨rfl, rfl⟩)
            | (go_at_call 8; refine (hwords _).mono ?_; rintro e w2 ⟨rfl, rfl⟩)
            | (go_at_call 9; refine hcall.mono ?_; rintro e w3 ⟨⟨B, k, d, rfl⟩, hb3⟩; have HB3 := Lib.hid hb3; clear hb3))
          go_ret
          exact ⟨rfl, HB.out.trans (HB3.out.mono HW1.out)⟩
    · have HP := Lib.hid (show parseL L = none by unfold parseL; rw [if_pos (.inr (by rw [hk, HN.out]; omega))])
      have hv : wordsOf (word0 L) = 3 := by rw [wordsOf_eq, hk]; first | done | rfl
      have hne : ((n : Int) == 3) = false := by simp; omega
      rw [HP.out]
      rw [hv] at hwords
      clear hk hv
      go_enter Tryd.func5, Tryd.ntmps5
      go_wp2_with (first
      | (go_at_call 7; refine hsplit.mono ?_; rintro e w1 ⟨rfl, rfl⟩)
      | (go_at_call 8; refine (hwords _).mono ?_; rintro e w2 ⟨rfl, rfl⟩))
      go_ret
      exact ⟨rfl, HB.out⟩
  · by_cases hm : n = 2
    · subst hm
      have HP := Lib.hid (show (parseL L).isSome = true by
        unfold parseL
        rw [if_neg (by rw [hk, HN.out]; decide)]
        rw [if_neg (by rw [hk]; decide)]
        rfl)
      have hv : wordsOf (word0 L) = 2 := by rw [wordsOf_eq, hk]; first | done | rfl
      obtain ⟨n1, n2⟩ := kindOf_not (l := word0 L) (by rw [hk]; decide)
      rw [HP.out]
      rw [hv] at hwords
      clear hk hv
      go_enter Tryd.func5, Tryd.ntmps5
      go_wp2_with (first
      | (go_at_call 7; refine hsplit.mono ?_; rintro e w1 ⟨rfl, rfl⟩)
      | (go_at_call 8; refine (hwords _).mono ?_; rintro e w2 ⟨rfl, rfl⟩))
      go_ret
      exact ⟨rfl, HB.out⟩
    · have HP := Lib.hid (show parseL L = none by unfold parseL; rw [if_pos (.inr (by rw [hk, HN.out]; omega))])
      have hv : wordsOf (word0 L) = 2 := by rw [wordsOf_eq, hk]; first | done | rfl
      have hne : ((n : Int) == 2) = false := by simp; omega
      rw [HP.out]
      rw [hv] at hwords
      clear hk hv
      go_enter Tryd.func5, Tryd.ntmps5
      go_wp2_with (first
      | (go_at_call 7; refine hsplit.mono ?_; rintro e w1 ⟨rfl, rfl⟩)
      | (go_at_call 8; refine (hwords _).mono ?_; rintro e w2 ⟨rfl, rfl⟩))
      go_ret
      exact ⟨rfl, HB.out⟩
  · by_cases hm : n = 3
    · subst hm
      have HP := Lib.hid (show (parseL L).isSome = true by
        unfold parseL
        rw [if_neg (by rw [hk, HN.out]; decide)]
        rw [if_neg (by rw [hk]; decide)]
        rfl)
      have hv : wordsOf (word0 L) = 3 := by rw [wordsOf_eq, hk]; first | done | rfl
      obtain ⟨n1, n2⟩ := kindOf_not (l := word0 L) (by rw [hk]; decide)
      rw [HP.out]
      rw [hv] at hwords
      clear hk hv
      go_enter Tryd.func5, Tryd.ntmps5
      go_wp2_with (first
      | (go_at_call 7; refine hsplit.mono ?_; rintro e w1 ⟨rfl, rfl⟩)
      | (go_at_call 8; refine (hwords _).mono ?_; rintro e w2 ⟨rfl, rfl⟩))
      go_ret
      exact ⟨rfl, HB.out⟩
    · have HP := Lib.hid (show parseL L = none by unfold parseL; rw [if_pos (.inr (by rw [hk, HN.out]; omega))])
      have hv : wordsOf (word0 L) = 3 := by rw [wordsOf_eq, hk]; first | done | rfl
      have hne : ((n : Int) == 3) = false := by simp; omega
      rw [HP.out]
      rw [hv] at hwords
      clear hk hv
      go_enter Tryd.func5, Tryd.ntmps5
      go_wp2_with (first
      | (go_at_call 7; refine hsplit.mono ?_; rintro e w1 ⟨rfl, rfl⟩)
      | (go_at_call 8; refine (hwords _).mono ?_; rintro e w2 ⟨rfl, rfl⟩))
      go_ret
      exact ⟨rfl, HB.out⟩
end Go.Proofs.YtieniogfnhhlbaaDoor
