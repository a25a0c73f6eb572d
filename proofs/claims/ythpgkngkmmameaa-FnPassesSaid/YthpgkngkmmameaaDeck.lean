/-
  Decks: all cards, the next seed, the shuffled deck (program's and reference's). Conditions: a seed of at least 0.
-/
import Derived.Test.YthpgkngkmmameaaShp
import Derived.Test.YthpgkngkmmameaaCards
import Derived.Test.YthpgkngkmmameaaPlainDiv
namespace Go.Proofs.Ythpgkngkmmameaa
open Go.RowKit
set_option linter.unusedVariables false
def allC (k : Nat) : List Int := (List.range k).map fun c : Nat => (c : Int)
theorem allC_succ (k : Nat) : allC k ++ [(k : Int)] = allC (k + 1) := by unfold allC; rw [List.range_succ, List.map_append]; rfl
theorem allC_good : (allC 52).length = 52 ∧ cardsB (allC 52) = true := by decide +kernel
theorem cards_swap {zs : List Int} {i k : Nat} {a b : Int} (ha : zs[i]? = some a) (hb : zs[k]? = some b) (h : cardsB zs = true) : cardsB ((zs.set i b).set k a) = true := by
  unfold cardsB at h ⊢
  rw [Bool.and_eq_true, List.all_eq_true, decide_eq_true_eq] at h ⊢
  obtain ⟨h1, h2⟩ := h
  refine ⟨fun x hx => ?_, ?_⟩
  · rcases List.mem_or_eq_of_mem_set hx with hx | rfl
    · rcases List.mem_or_eq_of_mem_set hx with hx | rfl
      · exact h1 x hx
      · exact h1 _ (List.mem_of_getElem? hb)
    · exact h1 _ (List.mem_of_getElem? ha)
  · have hi := (List.getElem?_eq_some_iff.1 ha).1
    have hk := (List.getElem?_eq_some_iff.1 hb).1
    have at_ : ∀ j, j < zs.length → ((zs.set i b).set k a)[j]? = zs[if j = k then i else if j = i then k else j]? := fun j hj => by
      by_cases hjk : j = k
      · subst hjk
        rw [if_pos rfl, ha, List.getElem?_set_self (by rw [List.length_set]; exact hj)]
      · rw [if_neg hjk, List.getElem?_set_ne (fun e => hjk e.symm)]
        by_cases hji : j = i
        · subst hji
          rw [if_pos rfl, hb, List.getElem?_set_self hj]
        · rw [if_neg hji, List.getElem?_set_ne (fun e => hji e.symm)]
    refine List.pairwise_iff_getElem.2 fun p q hp hq hpq => ?_
    simp only [List.length_set] at hp hq
    intro e
    have e2 : ((zs.set i b).set k a)[p]? = ((zs.set i b).set k a)[q]? := by
      rw [List.getElem?_eq_getElem (by simpa using hp), List.getElem?_eq_getElem (by simpa using hq), e]
    rw [at_ p hp, at_ q hq] at e2
    have e3 := (List.getElem?_inj (show (if p = k then i else if p = i then k else p) < zs.length by split; exact hi; split; exact hk; exact hp) h2).1 e2
    split at e3 <;> split at e3 <;> (try split at e3) <;> (try split at e3) <;> omega
theorem deck_iff {zs : List Int} : deckB zs = true ↔ zs.length = 52 ∧ cardsB zs = true := by unfold deckB; simp
theorem deck_all : deckB (allC 52) = true := deck_iff.2 allC_good
theorem deck_swap {zs : List Int} {i k : Nat} {a b : Int} (ha : zs[i]? = some a) (hb : zs[k]? = some b) (h : deckB zs = true) : deckB ((zs.set i b).set k a) = true := by
  obtain ⟨h1, h2⟩ := deck_iff.1 h
  exact deck_iff.2 ⟨by rw [List.length_set, List.length_set]; exact h1, cards_swap ha hb h2⟩
theorem deck_in {zs : List Int} (h : deckB zs = true) : ∀ x ∈ zs, 0 ≤ x ∧ x ≤ 51 := fun x hx => by
  have h2 := (deck_iff.1 h).2
  unfold cardsB at h2
  rw [Bool.and_eq_true, List.all_eq_true] at h2
  exact inB_iff.1 (h2.1 x hx)
theorem seed_next {s : Int} (h0 : 0 ≤ s) (h1 : s ≤ 2147483647) : (0 ≤ 48271 * s ∧ 48271 * s ≤ 103661183124337) ∧ 0 ≤ 48271 * s % 2147483647 ∧ 48271 * s % 2147483647 ≤ 2147483646 := by omega
theorem impl_nextSeed_c (s : Int) (w : World) (h0 : 0 ≤ s) (h1 : s ≤ 2147483647) : Calls Try.prog 138 #[.int .i64 s] w fun e w' => ∃ r : Int, e = .returned (.int .i64 r) ∧ 0 ≤ r ∧ r ≤ 2147483646 ∧ w = w' := by
  obtain ⟨⟨a, b⟩, c, d⟩ := seed_next h0 h1
  go_enter Try.func138, Try.ntmps138
  go_wp2_with fail
  go_ret
  exact ⟨_, rfl, c, d, rfl⟩
theorem spec_l03Next_c (s : Int) (w : World) (h0 : 0 ≤ s) (h1 : s ≤ 2147483647) : Calls Try.prog 173 #[.int .i64 s] w fun e w' => ∃ r : Int, e = .returned (.int .i64 r) ∧ 0 ≤ r ∧ r ≤ 2147483646 ∧ w = w' := by
  obtain ⟨⟨a, b⟩, c, d⟩ := seed_next h0 h1
  rw [Int.mul_comm] at a b c d
  go_enter Try.func173, Try.ntmps173
  go_wp2_with fail
  go_ret
  exact ⟨_, rfl, c, d, rfl⟩
/-- All cards, in a row of the call's own. -/
def AllR (w : World) (e : Ending) (w' : World) : Prop := ∃ g c, e = .returned (.slice (some ⟨g, 0, none⟩) 52 c) ∧ Row w' w.heap.size (some ⟨g, 0, none⟩) 52 c (allC 52) ∧ Below w.heap.size w w'
theorem spec_l01Has_nil (x : Int) (w : World) : Calls Try.prog 185 #[.slice none 0 0, .int .i64 x] w fun e w' => e = .returned (.bool false) ∧ w = w' := by
  go_enter Try.func185, Try.ntmps185
  go_wp2_with fail
  go_loop [5] (fun i => i = .int .i64 0) (fun _ => 0)
  case atStart => rfl
  case round =>
    subst hrel
    go_wp2_with fail
    go_ret
    exact ⟨rfl, rfl⟩
theorem spec_l02Others_nil (w : World) : Calls Try.prog 172 #[.slice none 0 0] w (AllR w) := by
  go_enter Try.func172, Try.ntmps172
  go_wp2_with fail
  go_loopw [3, 4] (fun o i wr => ∃ k g c', o = .slice (some ⟨g, 0, none⟩) k c' ∧ i = .int .i64 (k : Nat) ∧ k ≤ 52 ∧ Hid (Row wr w.heap.size (some ⟨g, 0, none⟩) k c' (allC k)) ∧ Hid (Below w.heap.size w wr)) (fun _ i _ => 52 - (intOf i).toNat)
  case atStart => exact ⟨0, _, _, rfl, rfl, Nat.zero_le _, Lib.hid (Row.empty w (Nat.le_refl _)), Lib.hid ((Below.refl _ _).alloc (Nat.le_refl _) _)⟩
  case round =>
    obtain ⟨k, g, c', rfl, rfl, hk, ho, hbr⟩ := hrel
    have hsz := hbr.out.size
    by_cases hlt : k < 52
    · have i1 : (k : Int) < 52 := by omega
      go_wp2_with (first
        | (go_at_call 185; refine (spec_l01Has_nil _ _).mono ?_; rintro e w' ⟨rfl, rfl⟩)
        | (at_builtin; refine wpList_append1 rfl _ _ rfl w.heap.size (some ⟨g, 0, none⟩) k c' _ rfl (Row.alloc ho.out _) wr.heap.size 1 (k : Int) rfl (by simp) (by omega) (by simp; omega) ?_; intro g2 c2 w2 hr2 hb2 hg2))
      rw [allC_succ] at hr2
      have HR2 := Lib.hid hr2
      have HB2 := Lib.hid ((hbr.out.alloc (by omega) _).trans hb2)
      clear hr2 hb2 hg2
      go_roundw
      case rel => exact ⟨k + 1, g2, c2, rfl, by go_num, by omega, HR2, HB2⟩
      case measure => simp [intOf]; omega
    · obtain rfl : k = 52 := by omega
      go_wp2_with fail
      go_ret
      exact ⟨g, c', rfl, ho.out, hbr.out⟩
theorem bit_none (k : Nat) : bits .and .u64 ((0 : Int) / 2 ^ k) 1 = 0 := by
  have h := bit_test 0 k (by decide)
  rw [Int.zero_ediv]
  rfl
theorem impl_otherCards_nil (w : World) : Calls Try.prog 137 #[.slice none 0 0] w (AllR w) := by
  go_enter Try.func137, Try.ntmps137
  go_wp2_with fail
  go_loop [3, 10] (fun s i => s = .int .u64 0 ∧ i = .int .i64 0) (fun _ _ => 0)
  case atStart => exact ⟨rfl, rfl⟩
  case round =>
    obtain ⟨rfl, rfl⟩ := hrel
    go_wp2_with fail
    go_loopw [6, 19] (fun o i wr => ∃ k A c', o = .slice A k c' ∧ i = .int .i64 (k : Nat) ∧ k ≤ 52 ∧ Hid (Row wr w.heap.size A k c' (allC k)) ∧ Hid (Below w.heap.size w wr)) (fun _ i _ => 52 - (intOf i).toNat)
    case atStart => exact ⟨0, _, _, rfl, rfl, Nat.zero_le _, Lib.hid (Row.nil w _), Lib.hid (Below.refl _ _)⟩
    case round =>
      obtain ⟨k, A, c', rfl, rfl, hk, ho, hbr⟩ := hrel
      have hsz := hbr.out.size
      by_cases hlt : k < 52
      · have i1 : (k : Int) < 52 := by omega
        have hb0 := bit_none k
        go_wp2_with (at_builtin; refine wpList_append1 rfl _ _ rfl w.heap.size A k c' _ rfl (Row.alloc ho.out _) wr.heap.size 1 (k : Int) rfl (by simp) (by omega) (by simp; omega) ?_; intro g2 c2 w2 hr2 hb2 hg2)
        rw [allC_succ] at hr2
        have HR2 := Lib.hid hr2
        have HB2 := Lib.hid ((hbr.out.alloc (by omega) _).trans hb2)
        clear hr2 hb2 hg2
        go_roundw
        case rel => exact ⟨k + 1, _, c2, rfl, by go_num, by omega, HR2, HB2⟩
        case measure => simp [intOf]; omega
      · obtain rfl : k = 52 := by omega
        go_wp2_with fail
        go_ret
        rcases ho.out.2 with ⟨_, h0⟩ | ⟨b, cap, cur, hv, hb, hh, rest⟩
        · omega
        · injection hv with h1 _ h3
          subst h1
          exact ⟨b, c', rfl, ho.out, hbr.out⟩
theorem impl_ShuffledDeck_c (s : Int) (w : World) (h0 : 1 ≤ s) (h1 : s ≤ 2147483646) : Calls Try.prog 81 #[.int .i64 s] w fun e w' => ∃ (A : Option Addr) (c : Nat) (zs : List Int), e = .returned (.tuple #[.slice A 52 c, .int .i64 0]) ∧ Hid (deckB zs = true) ∧ OI w' w.heap.size w'.heap.size A zs ∧ Below w.heap.size w w' := by
  have hin : inB s 1 2147483646 = true := inB_iff.2 ⟨h0, h1⟩
  go_enter Try.func81, Try.ntmps81
  go_wp2_with (go_at_call 94; refine (impl_within_c _ _ _ _).mono ?_; rintro e w' ⟨rfl, rfl⟩; rw [hin])
  refine (impl_otherCards_nil _).mono ?_
  rintro e w1 ⟨g, c, rfl, hr, hb⟩
  obtain ⟨hg0, hg1⟩ := World.ownsRow.lt hr g rfl
  have HO := Lib.hid hr.oi
  have HD := Lib.hid deck_all
  have HB := Lib.hid hb
  clear hr hb hin
  go_wp2_with fail
  go_loopw [0, 5] (fun t i wr => ∃ (sd : Int) (k : Nat) (zs : List Int), t = .int .i64 sd ∧ i = .int .i64 k ∧ k ≤ 51 ∧ 0 ≤ sd ∧ sd ≤ 2147483647 ∧ wr.heap.size = w1.heap.size ∧ Hid (deckB zs = true) ∧ Hid (OI wr w.heap.size w1.heap.size (some ⟨g, 0, none⟩) zs) ∧ Hid (Below w.heap.size w wr)) (fun _ i _ => (intOf i).toNat)
  case atStart => exact ⟨s, 51, _, rfl, rfl, Nat.le_refl _, by omega, by omega, rfl, HD, HO, HB⟩
  case round =>
    clear HO HD HB
    obtain ⟨sd, k, zs, rfl, rfl, hk, s0, s1, hz, HD, HO, HB⟩ := hrel
    by_cases hlt : 0 < k
    · have i1 : (0 : Int) < (k : Int) := by omega
      go_wp2_with fail
      refine (impl_nextSeed_c _ _ (by omega) (by omega)).mono ?_
      rintro e w' ⟨r, rfl, r0, r1, rfl⟩
      have m0 := Int.emod_nonneg r (show (k : Int) + 1 ≠ 0 by omega)
      have m1 := Int.emod_lt_of_pos r (show (0 : Int) < (k : Int) + 1 by omega)
      have m2 : (k : Int) + 1 ≠ 0 := by omega
      obtain ⟨j, hj⟩ : ∃ j : Nat, r % ((k : Int) + 1) = (j : Int) := ⟨(r % ((k : Int) + 1)).toNat, by omega⟩
      have hj' : r.tmod ((k : Int) + 1) = (j : Int) := by rw [Int.tmod_eq_emod_of_nonneg r0]; exact hj
      have hl := (deck_iff.1 HD.out).1
      obtain ⟨a, ha⟩ := get_some (zs := zs) (k := k) (by omega)
      obtain ⟨b, hb⟩ := get_some (zs := zs) (k := j) (by omega)
      have j1 : (j : Int) < 52 := by omega
      have j2 : (k : Int) < 52 := by omega
      have j3 : 0 ≤ (j : Int) := by omega
      have j4 : 0 ≤ (k : Int) := by omega
      obtain ⟨ca, fa⟩ := HO.out.cellX ha
      obtain ⟨cb, fb⟩ := HO.out.cellX hb
      have HO1 := OI.set HO.out (j := k) (by omega) b
      obtain ⟨cj, hcj⟩ : ∃ y, (zs.set k b)[j]? = some y := get_some (by rw [List.length_set]; omega)
      obtain ⟨cc, fc⟩ := HO1.cellX hcj
      have HO2 := Lib.hid (OI.set HO1 (j := j) (by rw [List.length_set]; omega) a)
      have HD2 := Lib.hid (deck_swap ha hb HD.out)
      have HB2 := Lib.hid ((HB.out.setCell (p := ⟨g, 0 + k, none⟩) hg0 (.int .i64 b)).setCell (p := ⟨g, 0 + j, none⟩) hg0 (.int .i64 a))
      simp only [Nat.zero_add] at ca fa cb fb cc fc HO2 HB2
      clear ha hb hcj HO HD HB HO1 hl m0 m1 hj
      go_wp2_with fail
      go_region
      all_goals
        go_wp2_with fail
        go_roundw
        case rel => exact ⟨_, k - 1, _, rfl, by go_num, by omega, r0, by omega, by simpa [World.setCell] using hz, HD2, HO2, Lib.hid HB2.out.drew⟩
        case measure => simp [intOf]; omega
    · obtain rfl : k = 0 := by omega
      go_wp2_with fail
      go_ret2
      exact ⟨_, c, zs, rfl, HD, HO.out.widen (Nat.le_refl _) (by omega), HB.out⟩
/-- A deck, in a row of the call's own. -/
def DeckR (w : World) (e : Ending) (w' : World) : Prop := ∃ g c zs, e = .returned (.slice (some ⟨g, 0, none⟩) 52 c) ∧ Hid (deckB zs = true) ∧ Row w' w.heap.size (some ⟨g, 0, none⟩) 52 c zs ∧ Below w.heap.size w w'
theorem spec_l03Shuffled_c (s : Int) (w : World) (h0 : 0 ≤ s) (h1 : s ≤ 2147483647) : Calls Try.prog 129 #[.int .i64 s] w (DeckR w) := by
  go_enter Try.func129, Try.ntmps129
  go_wp2_with fail
  refine (spec_l02Others_nil _).mono ?_
  rintro e w1 ⟨g, c, rfl, hr, hb⟩
  obtain ⟨hg0, hg1⟩ := World.ownsRow.lt hr g rfl
  have HO := Lib.hid hr
  have HD := Lib.hid deck_all
  have HB := Lib.hid hb
  clear hr hb
  go_wp2_with fail
  go_loopw [0, 4] (fun t i wr => ∃ (sd : Int) (k : Nat) (zs : List Int), t = .int .i64 sd ∧ i = .int .i64 k ∧ k ≤ 51 ∧ 0 ≤ sd ∧ sd ≤ 2147483647 ∧ Hid (deckB zs = true) ∧ Hid (Row wr w.heap.size (some ⟨g, 0, none⟩) 52 c zs) ∧ Hid (Below w.heap.size w wr)) (fun _ i _ => (intOf i).toNat)
  case atStart => exact ⟨s, 51, _, rfl, rfl, Nat.le_refl _, h0, h1, HD, HO, HB⟩
  case round =>
    clear HO HD HB
    obtain ⟨sd, k, zs, rfl, rfl, hk, s0, s1, HD, HO, HB⟩ := hrel
    by_cases hlt : 0 < k
    · have i1 : (1 : Int) ≤ (k : Int) := by omega
      go_wp2_with fail
      refine (spec_l03Next_c _ _ (by omega) (by omega)).mono ?_
      rintro e w' ⟨r, rfl, r0, r1, rfl⟩
      have m0 := Int.emod_nonneg r (show (k : Int) + 1 ≠ 0 by omega)
      have m1 := Int.emod_lt_of_pos r (show (0 : Int) < (k : Int) + 1 by omega)
      have m2 : (k : Int) + 1 ≠ 0 := by omega
      obtain ⟨j, hj⟩ : ∃ j : Nat, r % ((k : Int) + 1) = (j : Int) := ⟨(r % ((k : Int) + 1)).toNat, by omega⟩
      have hj' : r.tmod ((k : Int) + 1) = (j : Int) := by rw [Int.tmod_eq_emod_of_nonneg r0]; exact hj
      have hl := (deck_iff.1 HD.out).1
      obtain ⟨a, ha⟩ := get_some (zs := zs) (k := k) (by omega)
      obtain ⟨b, hb⟩ := get_some (zs := zs) (k := j) (by omega)
      have j1 : (j : Int) < 52 := by omega
      have j2 : (k : Int) < 52 := by omega
      have j3 : 0 ≤ (j : Int) := by omega
      have j4 : 0 ≤ (k : Int) := by omega
      obtain ⟨ca, fa⟩ := HO.out.oi.cellX ha
      obtain ⟨cb, fb⟩ := HO.out.oi.cellX hb
      have HO1 := Row.set HO.out (j := k) (by omega) b
      obtain ⟨cj, hcj⟩ : ∃ y, (zs.set k b)[j]? = some y := get_some (by rw [List.length_set]; omega)
      obtain ⟨cc, fc⟩ := HO1.oi.cellX hcj
      have HO2 := Lib.hid (Row.set HO1 (j := j) (by omega) a)
      have HD2 := Lib.hid (deck_swap ha hb HD.out)
      have HB2 := Lib.hid ((HB.out.setCell (p := ⟨g, k, none⟩) hg0 (.int .i64 b)).setCell (p := ⟨g, j, none⟩) hg0 (.int .i64 a))
      simp only [Nat.zero_add] at ca fa cb fb cc fc
      clear ha hb hcj HO HD HB HO1 hl m0 m1 hj
      go_wp2_with fail
      go_roundw
      case rel => exact ⟨_, k - 1, _, rfl, by go_num, by omega, r0, by omega, HD2, HO2, HB2⟩
      case measure => simp [intOf]; omega
    · obtain rfl : k = 0 := by omega
      go_wp2_with fail
      go_ret
      exact ⟨g, c, zs, rfl, HD, HO.out, HB.out⟩
end Go.Proofs.Ythpgkngkmmameaa
