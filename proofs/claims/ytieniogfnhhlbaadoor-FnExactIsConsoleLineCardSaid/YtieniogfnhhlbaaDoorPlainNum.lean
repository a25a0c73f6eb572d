/-
  The program's reading of numerals and of a console line: impl.decimal, readNumber, readPlain, readPlains, IsConsoleLine. Conditions: a line of at most 1048576 bytes; the library's variables as laid.
-/
import Derived.Test.YtieniogfnhhlbaaDoorParse
namespace Go.Proofs.YtieniogfnhhlbaaDoor
open Go.RowKit
set_option linter.unusedVariables false
theorem below_grow {w w' : World} (h : ∃ k os, w' = Sort.grow (w.drewN k) os) : Below w.heap.size w w' := by
  obtain ⟨k, os, rfl⟩ := h
  refine ⟨rfl, rfl, rfl, by simp [Sort.grow, World.drewN], fun j hj => ?_⟩
  show (w.heap ++ os)[j]? = _
  rw [Array.getElem?_append_left hj]
theorem below_bytes {w w' : World} {e : TypeId} (h : w' = w ∨ ∃ t, w' = Lib.bytesWorld w e t) : Below w.heap.size w w' := by
  rcases h with rfl | ⟨t, rfl⟩
  · exact Below.refl _ _
  · exact ⟨rfl, rfl, rfl, by rw [Lib.bytesWorld_size]; omega, fun j hj => Lib.bytesWorld_at_old w e t j hj⟩
theorem parseInt_bounds {l : List UInt8} {v : Int} (h : Lib.parseIntB 64 l = .ok v) : -9223372036854775808 ≤ v ∧ v ≤ 9223372036854775807 := by
  have e : (2 : Nat) ^ (64 - 1) = 9223372036854775808 := by decide
  unfold Lib.parseIntB at h
  split at h
  · cases h
  · rename_i c r
    simp only at h
    split at h
    · cases h
    · cases h
    · rename_i u hu
      split at h
      · cases h
      · rename_i h1
        split at h
        · cases h
        · rename_i h2
          injection h with h
          subst h
          rw [e] at h1 h2
          split
          · rename_i h3
            have := fun x => h2 ⟨h3, x⟩
            omega
          · rename_i h3
            have := fun x => h1 ⟨h3, x⟩
            omega
set_option maxHeartbeats 1000000 in
theorem impl_decimal_c (n : Int) (w : World) (h0 : -9223372036854775808 ≤ n) (h1 : n ≤ 9223372036854775807) (hl : LibOk w) : Calls Tryd.prog 25 #[.int .i64 n] w fun e w' => e = .returned (txt (Lib.itoa n)) ∧ Below w.heap.size w w' := by
  have hf := Tryd.strconv_FormatInt_10 n h0 h1 w hl.tab
  go_enter Tryd.func25, Tryd.ntmps25
  go_wp2_with (go_at_call 33; refine hf.mono ?_; rintro e w1 ⟨rfl, hb1⟩; have HB := Lib.hid (below_grow hb1); clear hb1)
  go_ret
  exact ⟨rfl, HB.out⟩
theorem parse_bad (s : ByteArray) (w : World) (hs : s.size ≤ 1048576) (hl : LibOk w) (hn : ∀ v, Lib.parseIntB 64 s.data.toList ≠ .ok v) :
    Calls Tryd.prog 24 #[.string s, .int .i64 10, .int .i64 64] w fun e w' => (∃ x N, e = .returned (.tuple #[.int .i64 x, .iface 61 (.pointer (some ⟨N, 0, none⟩))])) ∧ Below w.heap.size w w' := by
  obtain ⟨t2, a2, he2⟩ := hl.es
  obtain ⟨t3, a3, he3⟩ := hl.er
  cases hp : Lib.parseIntB 64 s.data.toList
  · exact absurd hp (hn _)
  · exact (Any.strconv_ParseInt_10_at64_syntax Tryd.laysC174 s (by omega) hp _ w he2 (.inr ⟨_, _, rfl⟩)).mono fun e w' ⟨N, h1, _, _, h2⟩ => ⟨⟨_, N, h1⟩, h2⟩
  · exact (Any.strconv_ParseInt_10_at64_range Tryd.laysC174 s (by omega) hp _ w he3 (.inr ⟨_, _, rfl⟩)).mono fun e w' ⟨N, h1, _, _, h2⟩ => ⟨⟨_, N, h1⟩, h2⟩
/-- What reading a numeral hands back. -/
def NumAt (r : Option Int) (w : World) (e : Ending) (w' : World) : Prop :=
  e = .returned (.tuple #[.int .i64 (r.getD 0), .bool r.isSome]) ∧ Below w.heap.size w w'
set_option maxHeartbeats 2000000 in
theorem impl_readNumber_c (s : ByteArray) (w : World) (hs : s.size ≤ 1048576) (hl : LibOk w) : Calls Tryd.prog 19 #[.string s] w (NumAt (numOf s.data.toList) w) := by
  by_cases hbad : ∀ v, Lib.parseIntB 64 s.data.toList ≠ .ok v
  · have hc := parse_bad s w hs hl hbad
    have HN := Lib.hid (show numOf s.data.toList = none by
      unfold numOf
      cases hp : Lib.parseIntB 64 s.data.toList
      · exact absurd hp (hbad _)
      · rfl
      · rfl)
    rw [HN.out]
    clear hbad
    go_enter Tryd.func19, Tryd.ntmps19
    go_wp2_with (go_at_call 24; refine hc.mono ?_; rintro e w1 ⟨⟨x, N, rfl⟩, hb1⟩; have HB := Lib.hid hb1; clear hb1)
    go_ret2
    exact ⟨rfl, HB.out⟩
  · obtain ⟨v, hp⟩ : ∃ v, Lib.parseIntB 64 s.data.toList = .ok v := Classical.byContradiction fun h => hbad fun v hv => h ⟨v, hv⟩
    clear hbad
    have hc := Tryd.strconv_ParseInt_10_at64_ok s (by omega) v hp w
    obtain ⟨b0, b1⟩ := parseInt_bounds hp
    have hdc := fun w hl => impl_decimal_c v w b0 b1 hl
    by_cases hi : Lib.itoa v = s.data.toList
    · have HN := Lib.hid (show numOf s.data.toList = some v by unfold numOf; rw [hp]; simp only; rw [if_pos hi])
      rw [HN.out]
      have hne : (Lib.itoa v == s.toList) = true := by rw [ByteArray.toList_eq, hi]; simp
      clear hp hi
      unfold txt at hdc
      go_enter Tryd.func19, Tryd.ntmps19
      go_wp2_with (first
        | (go_at_call 24; refine hc.mono ?_; rintro e w1 ⟨rfl, hb1⟩; have HB := Lib.hid (below_bytes hb1); clear hb1)
        | (go_at_call 25; refine (hdc _ (hl.below HB.out)).mono ?_; rintro e w2 ⟨rfl, hb2⟩; have HB2 := Lib.hid hb2; clear hb2))
      go_ret2
      exact ⟨rfl, HB.out.trans (HB2.out.mono HB.out.size)⟩
    · have HN := Lib.hid (show numOf s.data.toList = none by unfold numOf; rw [hp]; simp only; rw [if_neg hi])
      rw [HN.out]
      have hne : (Lib.itoa v == s.toList) = false := by rw [ByteArray.toList_eq]; simpa using hi
      clear hp hi
      unfold txt at hdc
      go_enter Tryd.func19, Tryd.ntmps19
      go_wp2_with (first
        | (go_at_call 24; refine hc.mono ?_; rintro e w1 ⟨rfl, hb1⟩; have HB := Lib.hid (below_bytes hb1); clear hb1)
        | (go_at_call 25; refine (hdc _ (hl.below HB.out)).mono ?_; rintro e w2 ⟨rfl, hb2⟩; have HB2 := Lib.hid hb2; clear hb2))
      go_ret2
      exact ⟨rfl, HB.out.trans (HB2.out.mono HB.out.size)⟩
set_option maxHeartbeats 2000000 in
theorem impl_readPlain_c (s : ByteArray) (w : World) (hs : s.size ≤ 1048576) (hl : LibOk w) : Calls Tryd.prog 14 #[.string s] w (PlainAt (plainOf s.data.toList) w) := by
  have hc := impl_readNumber_c s w hs hl
  have hlen : s.data.toList.length = s.size := Array.length_toList
  cases hn : numOf s.data.toList with
  | none =>
    have HP := Lib.hid (show plainOf s.data.toList = none by unfold plainOf; rw [hn])
    rw [HP.out]
    rw [hn] at hc
    clear hn
    have hc : Calls Tryd.prog 19 #[.string s] w fun e w' => e = .returned (.tuple #[.int .i64 0, .bool false]) ∧ Below w.heap.size w w' := hc
    go_enter Tryd.func14, Tryd.ntmps14
    go_wp2_with (go_at_call 19; refine hc.mono ?_; rintro e w1 ⟨rfl, hb1⟩; have HB := Lib.hid hb1; clear hb1)
    go_ret2
    exact ⟨⟨0, rfl⟩, HB.out⟩
  | some v =>
    rw [hn] at hc
    have hc : Calls Tryd.prog 19 #[.string s] w fun e w' => e = .returned (.tuple #[.int .i64 v, .bool true]) ∧ Below w.heap.size w w' := hc
    by_cases h0 : 0 ≤ v
    · by_cases h10 : s.size ≤ 10
      · have HP := Lib.hid (show plainOf s.data.toList = some v by unfold plainOf; rw [hn]; simp only; rw [if_pos ⟨h0, by omega⟩])
        rw [HP.out]
        clear hn hlen
        have h10' : (s.size : Int) ≤ 10 := by omega
        go_enter Tryd.func14, Tryd.ntmps14
        go_wp2_with (go_at_call 19; refine hc.mono ?_; rintro e w1 ⟨rfl, hb1⟩; have HB := Lib.hid hb1; clear hb1)
        go_ret2
        exact ⟨⟨0, rfl⟩, HB.out⟩
      · have HP := Lib.hid (show plainOf s.data.toList = none by unfold plainOf; rw [hn]; simp only; rw [if_neg (by omega)])
        rw [HP.out]
        clear hn hlen
        have h10' : decide ((s.size : Int) ≤ 10) = false := by simp; omega
        go_enter Tryd.func14, Tryd.ntmps14
        go_wp2_with (go_at_call 19; refine hc.mono ?_; rintro e w1 ⟨rfl, hb1⟩; have HB := Lib.hid hb1; clear hb1)
        go_ret2
        exact ⟨⟨v, rfl⟩, HB.out⟩
    · have HP := Lib.hid (show plainOf s.data.toList = none by unfold plainOf; rw [hn]; simp only; rw [if_neg (by omega)])
      rw [HP.out]
      clear hn hlen
      have h0d : decide (0 ≤ v) = false := by simpa using h0
      go_enter Tryd.func14, Tryd.ntmps14
      go_wp2_with (go_at_call 19; refine hc.mono ?_; rintro e w1 ⟨rfl, hb1⟩; have HB := Lib.hid hb1; clear hb1)
      go_ret2
      exact ⟨⟨v, rfl⟩, HB.out⟩
/-- What reading plain numerals hands back. -/
def PlainsAt (r : Option (List Int)) (w : World) (e : Ending) (w' : World) : Prop :=
  (match r with
  | none => e = .returned (.tuple #[.slice none 0 0, .bool false])
  | some ns => ∃ B d, e = .returned (.tuple #[.slice B ns.length d, .bool true]) ∧ Row w' w.heap.size B ns.length d ns) ∧ Below w.heap.size w w'
set_option maxHeartbeats 4000000 in
theorem impl_readPlains_c (A : Option Addr) (n c : Nat) (xs : List (List UInt8)) (w : World) (hn : xs.length = n) (hm : n ≤ 10000000) (hr : RV w A (xs.map txt)) (hp : ∀ x ∈ xs, x.length ≤ 1048576) (hl : LibOk w) :
    Calls Tryd.prog 9 #[.slice A n c] w (PlainsAt (plainsOf xs) w) := by
  subst hn
  have HPP := Lib.hid hp
  clear hp
  rcases hr.split with h0 | ⟨b, off, rfl, hbs, hc⟩
  · have he : xs = [] := List.eq_nil_of_length_eq_zero (by rw [List.length_map] at h0; omega)
    subst he
    go_enter Tryd.func9, Tryd.ntmps9
    go_wp2_with fail
    go_loop [4, 11] (fun o i => o = .slice none 0 0 ∧ i = .int .i64 0) (fun _ _ => 0)
    case atStart => exact ⟨rfl, rfl⟩
    case round =>
      obtain ⟨rfl, rfl⟩ := hrel
      go_wp2_with fail
      go_ret2
      exact ⟨⟨none, 0, rfl, Row.nil _ _⟩, Below.refl _ _⟩
  · obtain ⟨r, hrr⟩ : ∃ r, plainsOf xs = r := ⟨_, rfl⟩
    rw [hrr]
    have HRR := Lib.hid hrr
    clear hrr
    go_enter Tryd.func9, Tryd.ntmps9
    go_wp2_with fail
    go_loopw [4, 11] (fun out i wr => ∃ (k : Nat) (acc : List Int) (B : Option Addr) (d : Nat), i = .int .i64 k ∧ k ≤ xs.length ∧ plainsOf (xs.take k) = some acc ∧ out = .slice B k d ∧ Row wr w.heap.size B k d acc ∧ Below w.heap.size w wr) (fun _ i _ => xs.length - (intOf i).toNat)
    case atStart => exact ⟨0, [], none, 0, rfl, Nat.zero_le _, rfl, rfl, Row.nil _ _, Below.refl _ _⟩
    case round =>
      obtain ⟨k, acc, B, d, rfl, hk, hacc, rfl, hrow, hbr⟩ := hrel
      have HROW := Lib.hid hrow
      have HACC := Lib.hid hacc
      have HBR := Lib.hid hbr
      have hsz : w.heap.size ≤ wr.heap.size := hbr.size
      clear hrow hacc hbr
      by_cases hlt : k < xs.length
      · obtain ⟨x, hx⟩ : ∃ x, xs[k]? = some x := ⟨_, List.getElem?_eq_getElem hlt⟩
        have hcx : wr.cell? ⟨b, off + k, none⟩ = some (.string ⟨x.toArray⟩) := (HBR.out.cell (p := ⟨b, off + k, none⟩) hbs).trans (hc.out k (txt x) (by rw [List.getElem?_map, hx]; rfl))
        have hxs : (⟨x.toArray⟩ : ByteArray).size ≤ 1048576 := by
          have h1 := HPP.out x (List.mem_of_getElem? hx)
          have h2 : (⟨x.toArray⟩ : ByteArray).size = x.length := by simp [ByteArray.size]
          omega
        have hval := impl_readPlain_c ⟨x.toArray⟩ wr hxs (hl.below HBR.out)
        have HX := Lib.hid hx
        clear hx hxs
        cases hp : plainOf x with
        | none =>
          have hval : Calls Tryd.prog 14 #[.string ⟨x.toArray⟩] wr fun e w' => (∃ n : Int, e = .returned (.tuple #[.int .i64 n, .bool false])) ∧ Below wr.heap.size wr w' := hval.mono fun e w' h => by
            have e1 : plainOf (⟨x.toArray⟩ : ByteArray).data.toList = none := hp
            unfold PlainAt at h
            rw [e1] at h
            exact h
          have HF := Lib.hid (show r = none by rw [← HRR.out]; exact plainsOf_fail HX.out hp)
          clear hp
          go_wp2_with (go_at_call 14; refine hval.mono ?_; rintro e w3 ⟨⟨nv, rfl⟩, hb3⟩; have HB3 := Lib.hid hb3; clear hb3)
          go_ret2
          rw [HF.out]
          exact ⟨rfl, HBR.out.trans (HB3.out.mono hsz)⟩
        | some v =>
          have hval : Calls Tryd.prog 14 #[.string ⟨x.toArray⟩] wr fun e w' => e = .returned (.tuple #[.int .i64 v, .bool true]) ∧ Below wr.heap.size wr w' := hval.mono fun e w' h => by
            have e1 : plainOf (⟨x.toArray⟩ : ByteArray).data.toList = some v := hp
            unfold PlainAt at h
            rw [e1] at h
            obtain ⟨⟨_, h1⟩, h2⟩ := h
            exact ⟨h1, h2⟩
          have HF := Lib.hid (plainsOf_step HACC.out HX.out hp)
          clear hp
          go_wp2_with (first
            | (go_at_call 14; refine hval.mono ?_; rintro e w3 ⟨rfl, hb3⟩; have HB3 := Lib.hid hb3; have hs3 := hb3.size; have HROW3 := Lib.hid (HROW.out.below hb3); clear hb3)
            | (at_builtin; refine wpList_append1 rfl _ _ rfl w.heap.size B k d _ rfl (Row.alloc HROW3.out _) w3.heap.size 1 v rfl (by simp) (by omega) (by simp; omega) ?_; intro g2 c2 w4 hr2 hb2 hg2; have HB4 := Lib.hid hb2; have HR4 := Lib.hid hr2; clear hr2 hb2 hg2))
          go_roundw
          case rel =>
            exact ⟨k + 1, _, some ⟨g2, 0, none⟩, c2, by go_num, by omega, HF.out, by simp, HR4.out, ((HBR.out.trans (HB3.out.mono hsz)).alloc (by omega) _).trans HB4.out⟩
          case measure => simp [intOf]; omega
      · have hk3 : k = xs.length := by omega
        have HF := Lib.hid (show r = some acc by rw [← HRR.out, ← HACC.out, List.take_of_length_le (by omega)])
        go_wp2_with fail
        go_ret2
        rw [HF.out]
        exact ⟨⟨B, d, by rw [HROW.out.length]; rfl, by rw [HROW.out.length]; exact HROW.out⟩, HBR.out⟩
end Go.Proofs.YtieniogfnhhlbaaDoor
