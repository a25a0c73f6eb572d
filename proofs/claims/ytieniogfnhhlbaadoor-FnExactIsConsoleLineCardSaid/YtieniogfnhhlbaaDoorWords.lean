/-
  The names of the console's commands: how many words or numbers each takes, in the reference and in the program. Conditions: none.
-/
import Derived.Test.YtieniogfnhhlbaaDoorGlob
import Derived.Test.YtieniogfnhhlbaaDoorText
namespace Go.Proofs.YtieniogfnhhlbaaDoor
open Go.RowKit
set_option linter.unusedVariables false

/-- How a command is built, by its name's bytes: the reference's number for it, or -1. -/
def kindOf (l : List UInt8) : Int :=
  if l == [102, 105, 110, 105, 115, 104] then 0
  else if l == [116, 117, 114, 110] then 0
  else if l == [112, 111, 116] then 0
  else if l == [98, 111, 97, 114, 100] then 0
  else if l == [110, 101, 116] then 0
  else if l == [100, 101, 97, 108] then 2
  else if l == [111, 100, 100, 115] then 2
  else if l == [97, 99, 116] then 11
  else if l == [104, 105, 103, 104] then 11
  else if l == [108, 111, 119] then 11
  else if l == [99, 108, 97, 115, 115] then 11
  else if l == [114, 97, 110, 103, 101] then 11
  else if l == [118, 97, 108, 117, 101] then 11
  else if l == [105, 99, 109] then 12
  else -1
/-- The number of words of a command, or -1. -/
def wordsOf (l : List UInt8) : Int := if kindOf l < 0 then -1 else kindOf l % 10 + 1
/-- The answers of all tests of a name. -/
structure Tests (l : List UInt8) (b0 b1 b2 b3 b4 b5 b6 b7 b8 b9 b10 b11 b12 b13 : Bool) : Prop where
  t0 : (l == [102, 105, 110, 105, 115, 104]) = b0
  t1 : (l == [116, 117, 114, 110]) = b1
  t2 : (l == [112, 111, 116]) = b2
  t3 : (l == [98, 111, 97, 114, 100]) = b3
  t4 : (l == [110, 101, 116]) = b4
  t5 : (l == [100, 101, 97, 108]) = b5
  t6 : (l == [111, 100, 100, 115]) = b6
  t7 : (l == [97, 99, 116]) = b7
  t8 : (l == [104, 105, 103, 104]) = b8
  t9 : (l == [108, 111, 119]) = b9
  t10 : (l == [99, 108, 97, 115, 115]) = b10
  t11 : (l == [114, 97, 110, 103, 101]) = b11
  t12 : (l == [118, 97, 108, 117, 101]) = b12
  t13 : (l == [105, 99, 109]) = b13
theorem tests_of (l : List UInt8) : (l = [102, 105, 110, 105, 115, 104] ∧ kindOf l = 0 ∧ wordsOf l = 1 ∧ Tests l true false false false false false false false false false false false false false) ∨
    (l = [116, 117, 114, 110] ∧ kindOf l = 0 ∧ wordsOf l = 1 ∧ Tests l false true false false false false false false false false false false false false) ∨
    (l = [112, 111, 116] ∧ kindOf l = 0 ∧ wordsOf l = 1 ∧ Tests l false false true false false false false false false false false false false false) ∨
    (l = [98, 111, 97, 114, 100] ∧ kindOf l = 0 ∧ wordsOf l = 1 ∧ Tests l false false false true false false false false false false false false false false) ∨
    (l = [110, 101, 116] ∧ kindOf l = 0 ∧ wordsOf l = 1 ∧ Tests l false false false false true false false false false false false false false false) ∨
    (l = [100, 101, 97, 108] ∧ kindOf l = 2 ∧ wordsOf l = 3 ∧ Tests l false false false false false true false false false false false false false false) ∨
    (l = [111, 100, 100, 115] ∧ kindOf l = 2 ∧ wordsOf l = 3 ∧ Tests l false false false false false false true false false false false false false false) ∨
    (l = [97, 99, 116] ∧ kindOf l = 11 ∧ wordsOf l = 2 ∧ Tests l false false false false false false false true false false false false false false) ∨
    (l = [104, 105, 103, 104] ∧ kindOf l = 11 ∧ wordsOf l = 2 ∧ Tests l false false false false false false false false true false false false false false) ∨
    (l = [108, 111, 119] ∧ kindOf l = 11 ∧ wordsOf l = 2 ∧ Tests l false false false false false false false false false true false false false false) ∨
    (l = [99, 108, 97, 115, 115] ∧ kindOf l = 11 ∧ wordsOf l = 2 ∧ Tests l false false false false false false false false false false true false false false) ∨
    (l = [114, 97, 110, 103, 101] ∧ kindOf l = 11 ∧ wordsOf l = 2 ∧ Tests l false false false false false false false false false false false true false false) ∨
    (l = [118, 97, 108, 117, 101] ∧ kindOf l = 11 ∧ wordsOf l = 2 ∧ Tests l false false false false false false false false false false false false true false) ∨
    (l = [105, 99, 109] ∧ kindOf l = 12 ∧ wordsOf l = 3 ∧ Tests l false false false false false false false false false false false false false true) ∨
    (kindOf l = -1 ∧ wordsOf l = -1 ∧ Tests l false false false false false false false false false false false false false false) := by
  by_cases h0 : l = [102, 105, 110, 105, 115, 104]
  · subst h0
    exact .inl ⟨rfl, by decide, by decide, by constructor <;> decide⟩
  by_cases h1 : l = [116, 117, 114, 110]
  · subst h1
    exact .inr (.inl ⟨rfl, by decide, by decide, by constructor <;> decide⟩)
  by_cases h2 : l = [112, 111, 116]
  · subst h2
    exact .inr (.inr (.inl ⟨rfl, by decide, by decide, by constructor <;> decide⟩))
  by_cases h3 : l = [98, 111, 97, 114, 100]
  · subst h3
    exact .inr (.inr (.inr (.inl ⟨rfl, by decide, by decide, by constructor <;> decide⟩)))
  by_cases h4 : l = [110, 101, 116]
  · subst h4
    exact .inr (.inr (.inr (.inr (.inl ⟨rfl, by decide, by decide, by constructor <;> decide⟩))))
  by_cases h5 : l = [100, 101, 97, 108]
  · subst h5
    exact .inr (.inr (.inr (.inr (.inr (.inl ⟨rfl, by decide, by decide, by constructor <;> decide⟩)))))
  by_cases h6 : l = [111, 100, 100, 115]
  · subst h6
    exact .inr (.inr (.inr (.inr (.inr (.inr (.inl ⟨rfl, by decide, by decide, by constructor <;> decide⟩))))))
  by_cases h7 : l = [97, 99, 116]
  · subst h7
    exact .inr (.inr (.inr (.inr (.inr (.inr (.inr (.inl ⟨rfl, by decide, by decide, by constructor <;> decide⟩)))))))
  by_cases h8 : l = [104, 105, 103, 104]
  · subst h8
    exact .inr (.inr (.inr (.inr (.inr (.inr (.inr (.inr (.inl ⟨rfl, by decide, by decide, by constructor <;> decide⟩))))))))
  by_cases h9 : l = [108, 111, 119]
  · subst h9
    exact .inr (.inr (.inr (.inr (.inr (.inr (.inr (.inr (.inr (.inl ⟨rfl, by decide, by decide, by constructor <;> decide⟩)))))))))
  by_cases h10 : l = [99, 108, 97, 115, 115]
  · subst h10
    exact .inr (.inr (.inr (.inr (.inr (.inr (.inr (.inr (.inr (.inr (.inl ⟨rfl, by decide, by decide, by constructor <;> decide⟩))))))))))
  by_cases h11 : l = [114, 97, 110, 103, 101]
  · subst h11
    exact .inr (.inr (.inr (.inr (.inr (.inr (.inr (.inr (.inr (.inr (.inr (.inl ⟨rfl, by decide, by decide, by constructor <;> decide⟩)))))))))))
  by_cases h12 : l = [118, 97, 108, 117, 101]
  · subst h12
    exact .inr (.inr (.inr (.inr (.inr (.inr (.inr (.inr (.inr (.inr (.inr (.inr (.inl ⟨rfl, by decide, by decide, by constructor <;> decide⟩))))))))))))
  by_cases h13 : l = [105, 99, 109]
  · subst h13
    exact .inr (.inr (.inr (.inr (.inr (.inr (.inr (.inr (.inr (.inr (.inr (.inr (.inr (.inl ⟨rfl, by decide, by decide, by constructor <;> decide⟩)))))))))))))
  have e0 : (l == [102, 105, 110, 105, 115, 104]) = false := by simpa using h0
  have e1 : (l == [116, 117, 114, 110]) = false := by simpa using h1
  have e2 : (l == [112, 111, 116]) = false := by simpa using h2
  have e3 : (l == [98, 111, 97, 114, 100]) = false := by simpa using h3
  have e4 : (l == [110, 101, 116]) = false := by simpa using h4
  have e5 : (l == [100, 101, 97, 108]) = false := by simpa using h5
  have e6 : (l == [111, 100, 100, 115]) = false := by simpa using h6
  have e7 : (l == [97, 99, 116]) = false := by simpa using h7
  have e8 : (l == [104, 105, 103, 104]) = false := by simpa using h8
  have e9 : (l == [108, 111, 119]) = false := by simpa using h9
  have e10 : (l == [99, 108, 97, 115, 115]) = false := by simpa using h10
  have e11 : (l == [114, 97, 110, 103, 101]) = false := by simpa using h11
  have e12 : (l == [118, 97, 108, 117, 101]) = false := by simpa using h12
  have e13 : (l == [105, 99, 109]) = false := by simpa using h13
  have hk : kindOf l = -1 := by
    unfold kindOf
    rw [e0, e1, e2, e3, e4, e5, e6, e7, e8, e9, e10, e11, e12, e13]; rfl
  exact .inr (.inr (.inr (.inr (.inr (.inr (.inr (.inr (.inr (.inr (.inr (.inr (.inr (.inr (⟨hk, by unfold wordsOf; rw [hk]; rfl, ⟨e0, e1, e2, e3, e4, e5, e6, e7, e8, e9, e10, e11, e12, e13⟩⟩))))))))))))))
set_option maxHeartbeats 4000000 in
theorem spec_l34Kind_c (s : ByteArray) (w : World) : Calls Tryd.prog 11 #[.string s] w fun e w' => e = .returned (.int .i64 (kindOf s.data.toList)) ∧ w = w' := by
  have hs := tests_of s.toList
  rcases hs with ⟨hw, hk, hn, ht⟩ | ⟨hw, hk, hn, ht⟩ | ⟨hw, hk, hn, ht⟩ | ⟨hw, hk, hn, ht⟩ | ⟨hw, hk, hn, ht⟩ | ⟨hw, hk, hn, ht⟩ | ⟨hw, hk, hn, ht⟩ | ⟨hw, hk, hn, ht⟩ | ⟨hw, hk, hn, ht⟩ | ⟨hw, hk, hn, ht⟩ | ⟨hw, hk, hn, ht⟩ | ⟨hw, hk, hn, ht⟩ | ⟨hw, hk, hn, ht⟩ | ⟨hw, hk, hn, ht⟩ | ⟨hk, hn, ht⟩
  all_goals
    have HK := Lib.hid hk
    have HN := Lib.hid hn
    have e0 := ht.t0
    have e1 := ht.t1
    have e2 := ht.t2
    have e3 := ht.t3
    have e4 := ht.t4
    have e5 := ht.t5
    have e6 := ht.t6
    have e7 := ht.t7
    have e8 := ht.t8
    have e9 := ht.t9
    have e10 := ht.t10
    have e11 := ht.t11
    have e12 := ht.t12
    have e13 := ht.t13
    clear hk hn ht
    try clear hw
    go_enter Tryd.func11, Tryd.ntmps11
    go_wp2_with fail
    go_ret
    exact ⟨by rw [← ByteArray.toList_eq, HK.out]; rfl, rfl⟩
set_option maxHeartbeats 4000000 in
theorem impl_commandWords_c (s : ByteArray) (w : World) : Calls Tryd.prog 8 #[.string s] w fun e w' => e = .returned (.int .i64 (wordsOf s.data.toList)) ∧ w = w' := by
  have hs := tests_of s.toList
  rcases hs with ⟨hw, hk, hn, ht⟩ | ⟨hw, hk, hn, ht⟩ | ⟨hw, hk, hn, ht⟩ | ⟨hw, hk, hn, ht⟩ | ⟨hw, hk, hn, ht⟩ | ⟨hw, hk, hn, ht⟩ | ⟨hw, hk, hn, ht⟩ | ⟨hw, hk, hn, ht⟩ | ⟨hw, hk, hn, ht⟩ | ⟨hw, hk, hn, ht⟩ | ⟨hw, hk, hn, ht⟩ | ⟨hw, hk, hn, ht⟩ | ⟨hw, hk, hn, ht⟩ | ⟨hw, hk, hn, ht⟩ | ⟨hk, hn, ht⟩
  all_goals
    have HK := Lib.hid hk
    have HN := Lib.hid hn
    have e0 := ht.t0
    have e1 := ht.t1
    have e2 := ht.t2
    have e3 := ht.t3
    have e4 := ht.t4
    have e5 := ht.t5
    have e6 := ht.t6
    have e7 := ht.t7
    have e8 := ht.t8
    have e9 := ht.t9
    have e10 := ht.t10
    have e11 := ht.t11
    have e12 := ht.t12
    have e13 := ht.t13
    clear hk hn ht
    try clear hw
    go_enter Tryd.func8, Tryd.ntmps8
    go_wp2_with fail
    go_ret
    exact ⟨by rw [← ByteArray.toList_eq, HN.out]; rfl, rfl⟩
theorem kindOf_two {l : List UInt8} (h : kindOf l = 2) : l = [100, 101, 97, 108] ∨ l = [111, 100, 100, 115] := by
  rcases tests_of l with ⟨hw, hk, hn, ht⟩ | ⟨hw, hk, hn, ht⟩ | ⟨hw, hk, hn, ht⟩ | ⟨hw, hk, hn, ht⟩ | ⟨hw, hk, hn, ht⟩ | ⟨hw, hk, hn, ht⟩ | ⟨hw, hk, hn, ht⟩ | ⟨hw, hk, hn, ht⟩ | ⟨hw, hk, hn, ht⟩ | ⟨hw, hk, hn, ht⟩ | ⟨hw, hk, hn, ht⟩ | ⟨hw, hk, hn, ht⟩ | ⟨hw, hk, hn, ht⟩ | ⟨hw, hk, hn, ht⟩ | ⟨hk, hn, ht⟩ <;> first
    | exact .inl hw
    | exact .inr hw
    | (rw [h] at hk; cases hk)
theorem kindOf_not {l : List UInt8} (h : kindOf l ≠ 2) : (l == [100, 101, 97, 108]) = false ∧ (l == [111, 100, 100, 115]) = false := by
  constructor
  · cases e : (l == [100, 101, 97, 108]) with
    | false => rfl
    | true => simp at e; subst e; exact absurd (by decide) h
  · cases e : (l == [111, 100, 100, 115]) with
    | false => rfl
    | true => simp at e; subst e; exact absurd (by decide) h
end Go.Proofs.YtieniogfnhhlbaaDoor
