/-
  The reference's reading of a console line: spec.l34Parse, spec.IsConsoleLine. Conditions: a line of at most 1048576 bytes.
-/
import Derived.Test.YtieniogfnhhlbaaDoorSplit
import Derived.Test.YtieniogfnhhlbaaDoorValue
import Derived.Test.YtieniogfnhhlbaaDoorWords
namespace Go.Proofs.YtieniogfnhhlbaaDoor
open Go.RowKit
set_option linter.unusedVariables false
/-- Plain numerals, all of them. -/
def plainsOf : List (List UInt8) → Option (List Int)
  | [] => some []
  | x :: r => match plainOf x, plainsOf r with
    | some v, some vs => some (v :: vs)
    | _, _ => none
theorem plainsOf_snoc : ∀ {a : List (List UInt8)} {xs : List Int} {x : List UInt8} {v : Int}, plainsOf a = some xs → plainOf x = some v → plainsOf (a ++ [x]) = some (xs ++ [v])
  | [], xs, x, v, h, hv => by
    simp [plainsOf] at h
    subst h
    simp [plainsOf, hv]
  | y :: r, xs, x, v, h, hv => by
    unfold plainsOf at h
    split at h
    · rename_i u us h1 h2
      injection h with h
      subst h
      have := plainsOf_snoc (a := r) h2 hv
      simp [plainsOf, h1, this]
    · cases h
theorem plainsOf_fail : ∀ {zs : List (List UInt8)} {k : Nat} {x : List UInt8}, zs[k]? = some x → plainOf x = none → plainsOf zs = none
  | [], k, x, h, _ => by simp at h
  | y :: r, 0, x, h, hv => by simp at h; subst h; simp [plainsOf, hv]
  | y :: r, k + 1, x, h, hv => by
    have := plainsOf_fail (zs := r) (k := k) (by simpa using h) hv
    unfold plainsOf
    rw [this]
    split <;> simp_all
theorem plainsOf_length : ∀ {zs : List (List UInt8)} {vs : List Int}, plainsOf zs = some vs → vs.length = zs.length
  | [], vs, h => by simp [plainsOf] at h; subst h; rfl
  | y :: r, vs, h => by
    unfold plainsOf at h
    split at h
    · rename_i u us h1 h2
      injection h with h
      subst h
      simp [plainsOf_length h2]
    · cases h
theorem plainsOf_step {zs : List (List UInt8)} {k : Nat} {x : List UInt8} {xs : List Int} {v : Int} (h : plainsOf (zs.take k) = some xs) (hx : zs[k]? = some x) (hv : plainOf x = some v) : plainsOf (zs.take (k + 1)) = some (xs ++ [v]) := by
  have hk : k < zs.length := (List.getElem?_eq_some_iff.1 hx).1
  have e : zs[k] = x := (List.getElem?_eq_some_iff.1 hx).2
  rw [List.take_succ_eq_append_getElem hk, e]
  exact plainsOf_snoc h hv
/-- The first word of a line. -/
def word0 (l : List UInt8) : List UInt8 := (spl 32 l).head?.getD []
/-- A command's words and numbers. -/
def parseL (l : List UInt8) : Option (List (List UInt8) × List Int) :=
  if kindOf (word0 l) < 0 ∨ ((spl 32 l).length : Int) ≠ kindOf (word0 l) % 10 + 1 then none
  else if kindOf (word0 l) < 10 then (plainsOf (spl 32 l).tail).map fun ns => (spl 32 l, ns)
  else some (spl 32 l, [])
/-- What the reference's reading of a line hands back. -/
def ParseAt (r : Option (List (List UInt8) × List Int)) (w : World) (e : Ending) (w' : World) : Prop :=
  (match r with
  | none => e = .returned (.tuple #[.slice none 0 0, .slice none 0 0, .bool false])
  | some (ws, ns) => ∃ A c B d, e = .returned (.tuple #[.slice A ws.length c, .slice B ns.length d, .bool true]) ∧ RV w' A (ws.map txt) ∧ Row w' w.heap.size B ns.length d ns) ∧ Below w.heap.size w w'
theorem Row.rebase {w : World} {b b' : Nat} {A : Option Addr} {n c : Nat} {zs : List Int} (h : Row w b A n c zs) (hb : b' ≤ b) : Row w b' A n c zs := by
  refine ⟨h.1, ?_⟩
  rcases h.2 with h0 | ⟨g, cap, cur, hv, hg, r⟩
  · exact .inl h0
  · exact .inr ⟨g, cap, cur, hv, Nat.le_trans hb hg, r⟩
theorem kindOf_cases (l : List UInt8) : kindOf l = -1 ∨ kindOf l = 0 ∨ kindOf l = 2 ∨ kindOf l = 11 ∨ kindOf l = 12 := by
  rcases tests_of l with ⟨_, h, _⟩ | ⟨_, h, _⟩ | ⟨_, h, _⟩ | ⟨_, h, _⟩ | ⟨_, h, _⟩ | ⟨_, h, _⟩ | ⟨_, h, _⟩ | ⟨_, h, _⟩ | ⟨_, h, _⟩ | ⟨_, h, _⟩ | ⟨_, h, _⟩ | ⟨_, h, _⟩ | ⟨_, h, _⟩ | ⟨_, h, _⟩ | ⟨h, _⟩ <;> simp [h]
theorem spl_length_le (c : UInt8) : ∀ l : List UInt8, (spl c l).length ≤ l.length + 1
  | [] => Nat.le_refl _
  | x :: r => by
    have := spl_length_le c r
    have h2 : 0 < (spl c r).length := List.length_pos_iff.2 (spl_ne c r)
    unfold spl
    split <;> simp <;> omega
theorem spl_part (c : UInt8) : ∀ (l : List UInt8) (x : List UInt8), x ∈ spl c l → x.length ≤ l.length
  | [], x, h => by simp [spl] at h; subst h; simp
  | y :: r, x, h => by
    have ih := spl_part c r
    unfold spl at h
    split at h
    · rcases List.mem_cons.1 h with h | h
      · subst h; simp
      · have := ih x h; simp; omega
    · rcases List.mem_cons.1 h with h | h
      · subst h
        cases hs : spl c r with
        | nil => exact absurd hs (spl_ne c r)
        | cons a b => have := ih a (by rw [hs]; simp); simp; omega
      · have := ih x (List.mem_of_mem_tail h); simp; omega
set_option maxHeartbeats 4000000 in
theorem spec_l34Parse_c (s : ByteArray) (w : World) (hs : s.size ≤ 1048576) : Calls Tryd.prog 6 #[.string s] w (ParseAt (parseL s.data.toList) w) := by
  have hlen : s.data.toList.length = s.size := Array.length_toList
  have hwl := spl_length_le 32 s.data.toList
  have hw0 : 0 < (spl 32 s.data.toList).length := List.length_pos_iff.2 (spl_ne 32 _)
  have hparts := Lib.hid (spl_part 32 s.data.toList)
  generalize hL : s.data.toList = L at *
  have hword : (spl 32 L)[0]? = some (word0 L) := by
    unfold word0
    cases h : spl 32 L with
    | nil => exact absurd h (spl_ne 32 L)
    | cons a b => rfl
  have HWORD := Lib.hid hword
  have HSL := Lib.hid hL
  clear hword
  have hsplit : ∀ w, Calls Tryd.prog 10 #[.string s, .int .u8 32] w fun e w' => ∃ A cap, e = .returned (.slice A (spl 32 L).length cap) ∧ RowV 9 w' w.heap.size A (spl 32 L).length cap ((spl 32 L).map txt) ∧ Below w.heap.size w w' := fun w => by
    have := spec_l01Split_c s 32 32 w rfl hs
    rw [hL] at this
    exact this
  have hkind : ∀ w, Calls Tryd.prog 11 #[.string ⟨(word0 L).toArray⟩] w fun e w' => e = .returned (.int .i64 (kindOf (word0 L))) ∧ w = w' := fun w => spec_l34Kind_c ⟨(word0 L).toArray⟩ w
  generalize hn : (spl 32 L).length = n at *
  have HN := Lib.hid hn
  clear hL hn
  rcases kindOf_cases (word0 L) with hk | hk | hk | hk | hk
  · have HP := Lib.hid (show parseL L = none by unfold parseL; rw [if_pos (.inl (by rw [hk]; decide))])
    rw [HP.out]
    rw [hk] at hkind
    clear hk
    go_enter Tryd.func6, Tryd.ntmps6
    go_wp2_with (first
      | (go_at_call 10; refine (hsplit _).mono ?_; rintro e w1 ⟨A, cap, rfl, hr1, hb1⟩; have HR := Lib.hid hr1; have HB := Lib.hid hb1; have HS1 := Lib.hid hb1.size; (obtain h0 | ⟨b, off, rfl, hbs, hc⟩ := hr1.rv.split; · (exfalso; rw [List.length_map, HN.out] at h0; omega)); have hc0 := hc.out 0 (txt (word0 L)) (by simp [HWORD.out]); unfold txt at hc0; rw [Nat.add_zero] at hc0; clear hr1 hb1)
      | (go_at_call 11; refine (hkind _).mono ?_; rintro e w2 ⟨rfl, rfl⟩))
    go_ret3
    exact ⟨rfl, HB.out⟩
  · by_cases hm : n = 1
    · subst hm
      have HP := Lib.hid (show parseL L = some (spl 32 L, []) by
        unfold parseL
        rw [if_neg (by rw [hk, HN.out]; decide)]
        rw [if_pos (by rw [hk]; decide)]
        cases h : spl 32 L with
        | nil => exact absurd h (spl_ne 32 L)
        | cons a b =>
          have h1 := HN.out
          rw [h] at h1
          have : b = [] := List.eq_nil_of_length_eq_zero (by simpa using h1)
          subst this
          rfl)
      rw [HP.out]
      rw [hk] at hkind
      clear hk
      go_enter Tryd.func6, Tryd.ntmps6
      go_wp2_with (first
      | (go_at_call 10; refine (hsplit _).mono ?_; rintro e w1 ⟨A, cap, rfl, hr1, hb1⟩; have HR := Lib.hid hr1; have HB := Lib.hid hb1; have HS1 := Lib.hid hb1.size; (obtain h0 | ⟨b, off, rfl, hbs, hc⟩ := hr1.rv.split; · (exfalso; rw [List.length_map, HN.out] at h0; omega)); have hc0 := hc.out 0 (txt (word0 L)) (by simp [HWORD.out]); unfold txt at hc0; rw [Nat.add_zero] at hc0; clear hr1 hb1)
      | (go_at_call 11; refine (hkind _).mono ?_; rintro e w2 ⟨rfl, rfl⟩))
      have HROW := Lib.hid (Row.empty w1 (base := w.heap.size) HS1.out)
      have HB0 := Lib.hid (HB.out.alloc HS1.out (.cells #[] 2))
      go_loop [7, 8] (fun o i => o = .slice (some ⟨w1.heap.size, 0, none⟩) 0 0 ∧ i = .int .i64 1) (fun _ _ => 0)
      case atStart => exact ⟨rfl, rfl⟩
      case round =>
        obtain ⟨rfl, rfl⟩ := hrel
        go_wp2_with fail
        go_ret3
        exact ⟨⟨_, cap, _, 0, by rw [HN.out]; rfl, HR.out.rv.below ((Below.refl _ _).alloc (Nat.le_refl _) _), HROW.out⟩, HB0.out⟩
    · have hne : ((n : Int) != 1) = true := by simp; omega
      have HP := Lib.hid (show parseL L = none by unfold parseL; rw [if_pos (.inr (by rw [hk, HN.out]; omega))])
      rw [HP.out]
      rw [hk] at hkind
      clear hk
      go_enter Tryd.func6, Tryd.ntmps6
      go_wp2_with (first
      | (go_at_call 10; refine (hsplit _).mono ?_; rintro e w1 ⟨A, cap, rfl, hr1, hb1⟩; have HR := Lib.hid hr1; have HB := Lib.hid hb1; have HS1 := Lib.hid hb1.size; (obtain h0 | ⟨b, off, rfl, hbs, hc⟩ := hr1.rv.split; · (exfalso; rw [List.length_map, HN.out] at h0; omega)); have hc0 := hc.out 0 (txt (word0 L)) (by simp [HWORD.out]); unfold txt at hc0; rw [Nat.add_zero] at hc0; clear hr1 hb1)
      | (go_at_call 11; refine (hkind _).mono ?_; rintro e w2 ⟨rfl, rfl⟩))
      go_ret3
      exact ⟨rfl, HB.out⟩
  · by_cases hm : n = 3
    · subst hm
      obtain ⟨r, hr⟩ : ∃ r, plainsOf (spl 32 L).tail = r := ⟨_, rfl⟩
      have HP := Lib.hid (show parseL L = r.map fun ns => (spl 32 L, ns) by
        unfold parseL
        rw [if_neg (by rw [hk, HN.out]; decide), if_pos (by rw [hk]; decide), hr])
      have HRR := Lib.hid hr
      rw [HP.out]
      rw [hk] at hkind
      clear hk hr
      go_enter Tryd.func6, Tryd.ntmps6
      go_wp2_with (first
      | (go_at_call 10; refine (hsplit _).mono ?_; rintro e w1 ⟨A, cap, rfl, hr1, hb1⟩; have HR := Lib.hid hr1; have HB := Lib.hid hb1; have HS1 := Lib.hid hb1.size; (obtain h0 | ⟨b, off, rfl, hbs, hc⟩ := hr1.rv.split; · (exfalso; rw [List.length_map, HN.out] at h0; omega)); have hc0 := hc.out 0 (txt (word0 L)) (by simp [HWORD.out]); unfold txt at hc0; rw [Nat.add_zero] at hc0; clear hr1 hb1)
      | (go_at_call 11; refine (hkind _).mono ?_; rintro e w2 ⟨rfl, rfl⟩))
      have hrow0 := Row.empty w1 (base := w1.heap.size) (Nat.le_refl _)
      go_loopw [7, 8] (fun out i wr => ∃ (k : Nat) (acc : List Int) (B : Option Addr) (d : Nat), i = .int .i64 ((k : Int) + 1) ∧ k ≤ 2 ∧ plainsOf ((spl 32 L).tail.take k) = some acc ∧ out = .slice B k d ∧ Row wr w1.heap.size B k d acc ∧ Below w1.heap.size w1 wr) (fun _ i _ => 3 - (intOf i).toNat)
      case atStart => exact ⟨0, [], _, 0, rfl, by omega, rfl, rfl, hrow0, (Below.refl _ _).alloc (Nat.le_refl _) _⟩
      case round =>
        obtain ⟨k, acc, B, d, rfl, hk2, hacc, rfl, hrow, hbr1⟩ := hrel
        have HROW := Lib.hid hrow
        have HACC := Lib.hid hacc
        have HBR1 := Lib.hid hbr1
        have hsz : w1.heap.size ≤ wr.heap.size := hbr1.size
        clear hrow hacc hbr1
        by_cases hlt : k < 2
        · obtain ⟨x, hx⟩ : ∃ x, (spl 32 L).tail[k]? = some x := ⟨_, List.getElem?_eq_getElem (by rw [List.length_tail, HN.out]; omega)⟩
          have hx1 : (spl 32 L)[k + 1]? = some x := by rw [List.getElem?_tail] at hx; exact hx
          have hcx : wr.cell? ⟨b, off + (k + 1), none⟩ = some (.string ⟨x.toArray⟩) := (HBR1.out.cell (p := ⟨b, off + (k + 1), none⟩) hbs).trans (hc.out (k + 1) (txt x) (by rw [List.getElem?_map, hx1]; rfl))
          have hxs : (⟨x.toArray⟩ : ByteArray).size ≤ 1048576 := by
            have h1 := hparts.out x (List.mem_of_getElem? hx1)
            have h2 : (⟨x.toArray⟩ : ByteArray).size = x.length := by simp [ByteArray.size]
            omega
          have hval := fun w => spec_l01Value_c ⟨x.toArray⟩ w hxs
          have HX := Lib.hid hx
          clear hx hx1 hxs
          cases hp : plainOf x with
          | none =>
            have hval : ∀ w, Calls Tryd.prog 12 #[.string ⟨x.toArray⟩] w fun e w' => (∃ n : Int, e = .returned (.tuple #[.int .i64 n, .bool false])) ∧ Below w.heap.size w w' := fun w => (hval w).mono fun e w' h => by
              have e1 : plainOf (⟨x.toArray⟩ : ByteArray).data.toList = none := hp
              unfold PlainAt at h
              rw [e1] at h
              exact h
            have HF := Lib.hid (show r = none by rw [← HRR.out]; exact plainsOf_fail HX.out hp)
            clear hp
            go_wp2_with (go_at_call 12; refine (hval _).mono ?_; rintro e w3 ⟨⟨nv, rfl⟩, hb3⟩; have HB3 := Lib.hid hb3; clear hb3)
            go_ret3
            rw [HF.out]
            exact ⟨rfl, HB.out.trans ((HBR1.out.trans (HB3.out.mono hsz)).mono HS1.out)⟩
          | some v =>
            have hval : ∀ w, Calls Tryd.prog 12 #[.string ⟨x.toArray⟩] w fun e w' => e = .returned (.tuple #[.int .i64 v, .bool true]) ∧ Below w.heap.size w w' := fun w => (hval w).mono fun e w' h => by
              have e1 : plainOf (⟨x.toArray⟩ : ByteArray).data.toList = some v := hp
              unfold PlainAt at h
              rw [e1] at h
              obtain ⟨⟨_, h1⟩, h2⟩ := h
              exact ⟨h1, h2⟩
            have HF := Lib.hid (plainsOf_step HACC.out HX.out hp)
            clear hp
            go_wp2_with (first
              | (go_at_call 12; refine (hval _).mono ?_; rintro e w3 ⟨rfl, hb3⟩; have HB3 := Lib.hid hb3; have hs3 := hb3.size; have HROW3 := Lib.hid (HROW.out.below hb3); clear hb3)
              | (at_builtin; refine wpList_append1 rfl _ _ rfl w1.heap.size B k d _ rfl (Row.alloc HROW3.out _) w3.heap.size 1 v rfl (by simp) (by omega) (by simp; omega) ?_; intro g2 c2 w4 hr2 hb2 hg2; have HB4 := Lib.hid hb2; have HR4 := Lib.hid hr2; have HG4 := Lib.hid hg2; clear hr2 hb2 hg2))
            go_roundw
            case rel =>
              exact ⟨k + 1, _, some ⟨g2, 0, none⟩, c2, by go_num, by omega, HF.out, by simp, HR4.out, ((HBR1.out.trans (HB3.out.mono hsz)).alloc (by omega) _).trans HB4.out⟩
            case measure => simp [intOf]; omega
        · have hk3 : k = 2 := by omega
          subst hk3
          have HF := Lib.hid (show r = some acc by rw [← HRR.out, ← HACC.out, List.take_of_length_le (by rw [List.length_tail, HN.out]; decide)])
          go_wp2_with fail
          go_ret3
          rw [HF.out]
          exact ⟨⟨_, cap, B, d, by rw [HN.out, HROW.out.length]; rfl, HR.out.rv.below HBR1.out, by rw [HROW.out.length]; exact Row.rebase HROW.out HS1.out⟩, HB.out.trans (HBR1.out.mono HS1.out)⟩
    · have hne : ((n : Int) != 3) = true := by simp; omega
      have HP := Lib.hid (show parseL L = none by unfold parseL; rw [if_pos (.inr (by rw [hk, HN.out]; omega))])
      rw [HP.out]
      rw [hk] at hkind
      clear hk
      go_enter Tryd.func6, Tryd.ntmps6
      go_wp2_with (first
      | (go_at_call 10; refine (hsplit _).mono ?_; rintro e w1 ⟨A, cap, rfl, hr1, hb1⟩; have HR := Lib.hid hr1; have HB := Lib.hid hb1; have HS1 := Lib.hid hb1.size; (obtain h0 | ⟨b, off, rfl, hbs, hc⟩ := hr1.rv.split; · (exfalso; rw [List.length_map, HN.out] at h0; omega)); have hc0 := hc.out 0 (txt (word0 L)) (by simp [HWORD.out]); unfold txt at hc0; rw [Nat.add_zero] at hc0; clear hr1 hb1)
      | (go_at_call 11; refine (hkind _).mono ?_; rintro e w2 ⟨rfl, rfl⟩))
      go_ret3
      exact ⟨rfl, HB.out⟩
  · by_cases hm : n = 2
    · subst hm
      have HP := Lib.hid (show parseL L = some (spl 32 L, []) by
        unfold parseL
        rw [if_neg (by rw [hk, HN.out]; decide)]
        rw [if_neg (by rw [hk]; decide)])
      rw [HP.out]
      rw [hk] at hkind
      clear hk
      go_enter Tryd.func6, Tryd.ntmps6
      go_wp2_with (first
      | (go_at_call 10; refine (hsplit _).mono ?_; rintro e w1 ⟨A, cap, rfl, hr1, hb1⟩; have HR := Lib.hid hr1; have HB := Lib.hid hb1; have HS1 := Lib.hid hb1.size; (obtain h0 | ⟨b, off, rfl, hbs, hc⟩ := hr1.rv.split; · (exfalso; rw [List.length_map, HN.out] at h0; omega)); have hc0 := hc.out 0 (txt (word0 L)) (by simp [HWORD.out]); unfold txt at hc0; rw [Nat.add_zero] at hc0; clear hr1 hb1)
      | (go_at_call 11; refine (hkind _).mono ?_; rintro e w2 ⟨rfl, rfl⟩))
      have HROW := Lib.hid (Row.empty w1 (base := w.heap.size) HS1.out)
      have HB0 := Lib.hid (HB.out.alloc HS1.out (.cells #[] 2))
      go_loop [7, 8] (fun o i => o = .slice (some ⟨w1.heap.size, 0, none⟩) 0 0 ∧ i = .int .i64 1) (fun _ _ => 0)
      case atStart => exact ⟨rfl, rfl⟩
      case round =>
        obtain ⟨rfl, rfl⟩ := hrel
        go_wp2_with fail
        go_ret3
        exact ⟨⟨_, cap, _, 0, by rw [HN.out]; rfl, HR.out.rv.below ((Below.refl _ _).alloc (Nat.le_refl _) _), HROW.out⟩, HB0.out⟩
    · have hne : ((n : Int) != 2) = true := by simp; omega
      have HP := Lib.hid (show parseL L = none by unfold parseL; rw [if_pos (.inr (by rw [hk, HN.out]; omega))])
      rw [HP.out]
      rw [hk] at hkind
      clear hk
      go_enter Tryd.func6, Tryd.ntmps6
      go_wp2_with (first
      | (go_at_call 10; refine (hsplit _).mono ?_; rintro e w1 ⟨A, cap, rfl, hr1, hb1⟩; have HR := Lib.hid hr1; have HB := Lib.hid hb1; have HS1 := Lib.hid hb1.size; (obtain h0 | ⟨b, off, rfl, hbs, hc⟩ := hr1.rv.split; · (exfalso; rw [List.length_map, HN.out] at h0; omega)); have hc0 := hc.out 0 (txt (word0 L)) (by simp [HWORD.out]); unfold txt at hc0; rw [Nat.add_zero] at hc0; clear hr1 hb1)
      | (go_at_call 11; refine (hkind _).mono ?_; rintro e w2 ⟨rfl, rfl⟩))
      go_ret3
      exact ⟨rfl, HB.out⟩
  · by_cases hm : n = 3
    · subst hm
      have HP := Lib.hid (show parseL L = some (spl 32 L, []) by
        unfold parseL
        rw [if_neg (by rw [hk, HN.out]; decide)]
        rw [if_neg (by rw [hk]; decide)])
      rw [HP.out]
      rw [hk] at hkind
      clear hk
      go_enter Tryd.func6, Tryd.ntmps6
      go_wp2_with (first
      | (go_at_call 10; refine (hsplit _).mono ?_; rintro e w1 ⟨A, cap, rfl, hr1, hb1⟩; have HR := Lib.hid hr1; have HB := Lib.hid hb1; have HS1 := Lib.hid hb1.size; (obtain h0 | ⟨b, off, rfl, hbs, hc⟩ := hr1.rv.split; · (exfalso; rw [List.length_map, HN.out] at h0; omega)); have hc0 := hc.out 0 (txt (word0 L)) (by simp [HWORD.out]); unfold txt at hc0; rw [Nat.add_zero] at hc0; clear hr1 hb1)
      | (go_at_call 11; refine (hkind _).mono ?_; rintro e w2 ⟨rfl, rfl⟩))
      have HROW := Lib.hid (Row.empty w1 (base := w.heap.size) HS1.out)
      have HB0 := Lib.hid (HB.out.alloc HS1.out (.cells #[] 2))
      go_loop [7, 8] (fun o i => o = .slice (some ⟨w1.heap.size, 0, none⟩) 0 0 ∧ i = .int .i64 1) (fun _ _ => 0)
      case atStart => exact ⟨rfl, rfl⟩
      case round =>
        obtain ⟨rfl, rfl⟩ := hrel
        go_wp2_with fail
        go_ret3
        exact ⟨⟨_, cap, _, 0, by rw [HN.out]; rfl, HR.out.rv.below ((Below.refl _ _).alloc (Nat.le_refl _) _), HROW.out⟩, HB0.out⟩
    · have hne : ((n : Int) != 3) = true := by simp; omega
      have HP := Lib.hid (show parseL L = none by unfold parseL; rw [if_pos (.inr (by rw [hk, HN.out]; omega))])
      rw [HP.out]
      rw [hk] at hkind
      clear hk
      go_enter Tryd.func6, Tryd.ntmps6
      go_wp2_with (first
      | (go_at_call 10; refine (hsplit _).mono ?_; rintro e w1 ⟨A, cap, rfl, hr1, hb1⟩; have HR := Lib.hid hr1; have HB := Lib.hid hb1; have HS1 := Lib.hid hb1.size; (obtain h0 | ⟨b, off, rfl, hbs, hc⟩ := hr1.rv.split; · (exfalso; rw [List.length_map, HN.out] at h0; omega)); have hc0 := hc.out 0 (txt (word0 L)) (by simp [HWORD.out]); unfold txt at hc0; rw [Nat.add_zero] at hc0; clear hr1 hb1)
      | (go_at_call 11; refine (hkind _).mono ?_; rintro e w2 ⟨rfl, rfl⟩))
      go_ret3
      exact ⟨rfl, HB.out⟩
set_option maxHeartbeats 1000000 in
theorem spec_IsConsoleLine_c (s : ByteArray) (w : World) (hs : s.size ≤ 1048576) : Calls Tryd.prog 4 #[.string s] w fun e w' => e = .returned (.bool (parseL s.data.toList).isSome) ∧ Below w.heap.size w w' := by
  have hp := spec_l34Parse_c s
  generalize hr : parseL s.data.toList = r at *
  have HH := Lib.hid hr
  clear hr
  cases r with
  | none =>
    have hp : ∀ w, Calls Tryd.prog 6 #[.string s] w fun e w' => e = .returned (.tuple #[.slice none 0 0, .slice none 0 0, .bool false]) ∧ Below w.heap.size w w' := fun w => (hp w hs).mono fun e w' h => h
    go_enter Tryd.func4, Tryd.ntmps4
    go_wp2_with (go_at_call 6; refine (hp _).mono ?_; rintro e w1 ⟨rfl, hb1⟩; have HB := Lib.hid hb1; clear hb1)
    go_ret
    exact ⟨rfl, HB.out⟩
  | some x =>
    have hp : ∀ w, Calls Tryd.prog 6 #[.string s] w fun e w' => (∃ A n c B m d, e = .returned (.tuple #[.slice A n c, .slice B m d, .bool true])) ∧ Below w.heap.size w w' := fun w => (hp w hs).mono fun e w' h => by
      obtain ⟨⟨A, c, B, d, h1, _⟩, h2⟩ := h
      exact ⟨⟨_, _, _, _, _, _, h1⟩, h2⟩
    go_enter Tryd.func4, Tryd.ntmps4
    go_wp2_with (go_at_call 6; refine (hp _).mono ?_; rintro e w1 ⟨⟨A, n, c, B, m, d, rfl⟩, hb1⟩; have HB := Lib.hid hb1; clear hb1)
    go_ret
    exact ⟨rfl, HB.out⟩
end Go.Proofs.YtieniogfnhhlbaaDoor
