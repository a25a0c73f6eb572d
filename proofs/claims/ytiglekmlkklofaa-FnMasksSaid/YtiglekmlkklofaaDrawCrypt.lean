/-
  What the reference draws for chapter 32's numbers. Conditions: a code of at most 1048576 bytes.
-/
import Derived.Test.YtiglekmlkklofaaCryptOpen
import Derived.Test.YtiglekmlkklofaaSrc
namespace Go.Proofs.Ytiglekmlkklofaa
open Go.RowKit
set_option linter.unusedVariables false

theorem RI.lit (w : World) (cs : Array Value) (zs : List Int) (h : cs.toList = zs.map (.int .i64)) : RI (w.alloc (.cells cs 2)) (some ⟨w.heap.size, 0, none⟩) zs := by
  refine .inr ⟨w.heap.size, 0, rfl, by simp, fun j x hx => ?_⟩
  rw [World.cell?_alloc_new, Nat.zero_add]
  have : cs.toList[j]? = some (.int .i64 x) := by rw [h]; simp [hx]
  simpa using this
theorem Src.alloc {w : World} {lo g : Nat} (h : Src w lo g) (o : Obj) : Src (w.alloc o) lo g := h.below ((Below.refl _ _).alloc (Nat.le_refl _) o)
/-- A number drawn from a source. -/
def DrawI (w : World) (lo g : Nat) (a b : Int) (e : Ending) (w' : World) : Prop := ∃ r : Int, e = .returned (.int .i64 r) ∧ a ≤ r ∧ r ≤ b ∧ Src w' lo g ∧ Kept g (g + 1) w w'
theorem spec_l32DrawKey_c (w : World) (lo g : Nat) (hs : Src w lo g) : Calls Try.prog 87 #[.pointer (some ⟨g, 0, none⟩)] w (DrawI w lo g (-1) 1019) := by
  go_enter Try.func87, Try.ntmps87
  go_wp2_with fail
  refine (spec_l01Next_c _ lo g _ hs (by omega)).mono ?_
  rintro e w1 ⟨r1, rfl, p1, q1, hs1, hk1⟩
  have z1 := hk1.size
  by_cases h0 : r1 = 0
  · have hb : (r1 == 0) = true := by simp [h0]
    clear h0
    go_wp2_with fail
    refine (spec_l01Pick_c _ lo g _ _ _ [0, 1, 1018, 1019, -1] (hs1.alloc _) rfl (by simp) (by simp) (RI.lit _ _ _ rfl) (fun b off e => by injection e with e; injection e with e1 _; have := hs1.lt; omega)).mono ?_
    rintro e w2 ⟨r2, rfl, m2, hs2, hk2⟩
    have hr2 : -1 ≤ r2 ∧ r2 ≤ 1019 := by simp at m2; omega
    go_wp2_with fail
    go_ret
    exact ⟨r2, rfl, hr2.1, hr2.2, hs2, (hk1.alloc _).trans hk2⟩
  · have hb : (r1 == 0) = false := by simp [h0]
    clear h0
    go_wp2_with fail
    refine (spec_l01Next_c _ lo g _ hs1 (by omega)).mono ?_
    rintro e w2 ⟨r2, rfl, p2, q2, hs2, hk2⟩
    have z2 := hk2.size
    have hr2 : r2 ≤ 1017 := by omega
    go_wp2_with fail
    go_ret
    exact ⟨_, rfl, by omega, by omega, hs2, hk1.trans hk2⟩
/-- A number drawn from a code. -/
def DrawC (w : World) (a b : Int) (e : Ending) (w' : World) : Prop := ∃ r : Int, e = .returned (.int .i64 r) ∧ a ≤ r ∧ r ≤ b ∧ Below w.heap.size w w'
theorem src_below {w w1 w2 : World} {g : Nat} (h1 : Src w1 w.heap.size g) (h2 : Below w.heap.size w w1) (hk : Kept g (g + 1) w1 w2) : Below w.heap.size w w2 := h2.trans (hk.below h1.lt.1 h2.size)
theorem spec_DrawInverseKey_c (A : Option Addr) (n c : Nat) (bs : List Int) (w : World) (hn : bs.length = n) (hm : n ≤ 1048576) (hr : BR w A bs) :
    Calls Try.prog 49 #[.slice A n c] w (DrawC w (-1) 1019) := by
  go_enter Try.func49, Try.ntmps49
  go_wp2_with fail
  refine (spec_l01From_c A n c bs _ hn hm hr).mono ?_
  rintro e w1 ⟨g, rfl, hs1, hb1⟩
  go_wp2_with fail
  refine (spec_l32DrawKey_c _ _ g hs1).mono ?_
  rintro e w2 ⟨r, rfl, r0, r1, hs2, hk2⟩
  go_wp2_with fail
  go_ret
  exact ⟨r, rfl, r0, r1, src_below hs1 hb1 hk2⟩
theorem codeI_range' (c : Int) (h0 : 0 ≤ c) (h1 : c ≤ 51) : 0 ≤ codeI c ∧ codeI c ≤ 2038 := by
  unfold codeI
  have := Int.emod_nonneg ((c + 2) * (c + 2)) (show (2039 : Int) ≠ 0 by decide)
  have := Int.emod_lt_of_pos ((c + 2) * (c + 2)) (show (0 : Int) < 2039 by decide)
  omega
theorem spec_DrawCardOfCode_c (A : Option Addr) (n c : Nat) (bs : List Int) (w : World) (hn : bs.length = n) (hm : n ≤ 1048576) (hr : BR w A bs) :
    Calls Try.prog 45 #[.slice A n c] w (DrawC w 0 4000) := by
  go_enter Try.func45, Try.ntmps45
  go_wp2_with fail
  refine (spec_l01From_c A n c bs _ hn hm hr).mono ?_
  rintro e w1 ⟨g, rfl, hs1, hb1⟩
  go_wp2_with fail
  refine (spec_l01Next_c _ _ g _ hs1 (by omega)).mono ?_
  rintro e w2 ⟨r, rfl, r0, r1, hs2, hk2⟩
  by_cases h0 : r = 0
  · have hb : (r == 0) = true := by simp [h0]
    clear h0
    go_wp2_with fail
    refine (spec_l01Next_c _ _ g _ hs2 (by omega)).mono ?_
    rintro e w3 ⟨t, rfl, t0, t1, hs3, hk3⟩
    have ht : t ≤ 51 := by omega
    obtain ⟨c0, c1⟩ := codeI_range' t t0 ht
    go_wp2_with (go_at_call 60; refine (spec_l32Code_c _ _ (by omega) (by omega)).mono ?_; rintro e w' ⟨rfl, rfl⟩)
    go_ret
    exact ⟨_, rfl, by omega, by omega, src_below hs1 hb1 (hk2.trans hk3)⟩
  · have hb : (r == 0) = false := by simp [h0]
    clear h0
    go_wp2_with fail
    refine (spec_l01Next_c _ _ g _ hs2 (by omega)).mono ?_
    rintro e w3 ⟨t, rfl, t0, t1, hs3, hk3⟩
    go_wp2_with fail
    go_ret
    exact ⟨_, rfl, by omega, by omega, src_below hs1 hb1 (hk2.trans hk3)⟩
theorem spec_l02DrawCard_c (w : World) (lo g : Nat) (hs : Src w lo g) : Calls Try.prog 84 #[.pointer (some ⟨g, 0, none⟩)] w (DrawI w lo g (-1) 52) := by
  go_enter Try.func84, Try.ntmps84
  go_wp2_with fail
  refine (spec_l01Next_c _ lo g _ hs (by omega)).mono ?_
  rintro e w1 ⟨r1, rfl, p1, q1, hs1, hk1⟩
  have z1 := hk1.size
  by_cases h0 : r1 = 0
  · have hb : (r1 == 0) = true := by simp [h0]
    clear h0
    go_wp2_with fail
    refine (spec_l01Pick_c _ lo g _ _ _ [-1, 0, 51, 52] (hs1.alloc _) rfl (by simp) (by simp) (RI.lit _ _ _ rfl) (fun b off e => by injection e with e; injection e with e1 _; have := hs1.lt; omega)).mono ?_
    rintro e w2 ⟨r2, rfl, m2, hs2, hk2⟩
    have hr2 : -1 ≤ r2 ∧ r2 ≤ 52 := by simp at m2; omega
    go_wp2_with fail
    go_ret
    exact ⟨r2, rfl, hr2.1, hr2.2, hs2, (hk1.alloc _).trans hk2⟩
  · have hb : (r1 == 0) = false := by simp [h0]
    clear h0
    go_wp2_with fail
    refine (spec_l01Next_c _ lo g _ hs1 (by omega)).mono ?_
    rintro e w2 ⟨r2, rfl, p2, q2, hs2, hk2⟩
    have z2 := hk2.size
    have hr2 : r2 ≤ 51 := by omega
    go_wp2_with fail
    go_ret
    exact ⟨_, rfl, by omega, by omega, hs2, hk1.trans hk2⟩
theorem spec_DrawCodeOf_c (A : Option Addr) (n c : Nat) (bs : List Int) (w : World) (hn : bs.length = n) (hm : n ≤ 1048576) (hr : BR w A bs) :
    Calls Try.prog 44 #[.slice A n c] w (DrawC w (-1) 52) := by
  go_enter Try.func44, Try.ntmps44
  go_wp2_with fail
  refine (spec_l01From_c A n c bs _ hn hm hr).mono ?_
  rintro e w1 ⟨g, rfl, hs1, hb1⟩
  go_wp2_with fail
  refine (spec_l02DrawCard_c _ _ g hs1).mono ?_
  rintro e w2 ⟨r, rfl, r0, r1, hs2, hk2⟩
  go_wp2_with fail
  go_ret
  exact ⟨r, rfl, r0, r1, src_below hs1 hb1 hk2⟩
theorem spec_DrawCommitTo_c (A : Option Addr) (n c : Nat) (bs : List Int) (w : World) (hn : bs.length = n) (hm : n ≤ 1048576) (hr : BR w A bs) :
    Calls Try.prog 47 #[.slice A n c] w fun e w' => ∃ a b : Int, e = .returned (.tuple #[.int .i64 a, .int .i64 b]) ∧ Below w.heap.size w w' := by
  go_enter Try.func47, Try.ntmps47
  go_wp2_with fail
  refine (spec_l01From_c A n c bs _ hn hm hr).mono ?_
  rintro e w0 ⟨g, rfl, hs0, hb0⟩
  obtain ⟨lo, hlo⟩ : ∃ lo, lo = w.heap.size := ⟨_, rfl⟩
  rw [← hlo] at hs0
  have HLO := Lib.hid hlo
  clear hlo
  go_wp2_with fail
  refine (spec_l01Next_c _ lo g _ hs0 (by omega)).mono ?_
  rintro e w1 ⟨r1, rfl, p1, q1, hs1, hk1⟩
  have z1 := hk1.size
  go_wp2_with fail
  refine (spec_l01Pick_c _ lo g _ _ _ [0, 1, 1018, 1019, -1, r1] (hs1.alloc _) rfl (by simp) (by simp) (RI.lit _ _ _ rfl) (fun b off e => by injection e with e; injection e with e1 _; have := hs1.lt; omega)).mono ?_
  rintro e w2 ⟨r2, rfl, m2, hs2, hk2⟩
  go_wp2_with fail
  refine (spec_l01Next_c _ lo g _ hs2 (by omega)).mono ?_
  rintro e w3 ⟨r3, rfl, p3, q3, hs3, hk3⟩
  have z3 := hk3.size
  go_wp2_with fail
  refine (spec_l01Pick_c _ lo g _ _ _ [0, 1, 1018, 1019, -1, r3] (hs3.alloc _) rfl (by simp) (by simp) (RI.lit _ _ _ rfl) (fun b off e => by injection e with e; injection e with e1 _; have := hs3.lt; omega)).mono ?_
  rintro e w4 ⟨r4, rfl, m4, hs4, hk4⟩
  go_wp2_with fail
  go_ret2
  rw [HLO.out] at hs0
  exact ⟨_, _, rfl, src_below hs0 hb0 ((((hk1.alloc _).trans hk2).trans (hk3.alloc _)).trans hk4)⟩
theorem spec_DrawOpenElement_c (A : Option Addr) (n c : Nat) (bs : List Int) (w : World) (hn : bs.length = n) (hm : n ≤ 1048576) (hr : BR w A bs) :
    Calls Try.prog 46 #[.slice A n c] w fun e w' => ∃ a b d : Int, e = .returned (.tuple #[.int .i64 a, .int .i64 b, .int .i64 d]) ∧ Below w.heap.size w w' := by
  go_enter Try.func46, Try.ntmps46
  go_wp2_with fail
  refine (spec_l01From_c A n c bs _ hn hm hr).mono ?_
  rintro e w0 ⟨g, rfl, hs0, hb0⟩
  obtain ⟨lo, hlo⟩ : ∃ lo, lo = w.heap.size := ⟨_, rfl⟩
  rw [← hlo] at hs0
  have HLO := Lib.hid hlo
  clear hlo
  go_wp2_with fail
  refine (spec_l32DrawKey_c _ _ g hs0).mono ?_
  rintro e w1 ⟨a, rfl, a0, a1, hs1, hk1⟩
  go_wp2_with fail
  refine (spec_l32DrawKey_c _ _ g hs1).mono ?_
  rintro e w2 ⟨b, rfl, b0, b1, hs2, hk2⟩
  cases ha : inB a 1 1018
  · go_wp2_with (go_at_call 67; refine (spec_l32Key_c _ _).mono ?_; rintro e w' ⟨rfl, rfl⟩)
    refine (spec_l01Next_c _ lo g _ hs2 (by omega)).mono ?_
    rintro e w3 ⟨r3, rfl, p3, q3, hs3, hk3⟩
    go_wp2_with fail
    go_ret3
    rw [HLO.out] at hs0
    exact ⟨_, _, _, rfl, src_below hs0 hb0 ((hk1.trans hk2).trans hk3)⟩
  cases hb : inB b 1 1018
  · go_wp2_with (go_at_call 67; refine (spec_l32Key_c _ _).mono ?_; rintro e w' ⟨rfl, rfl⟩)
    refine (spec_l01Next_c _ lo g _ hs2 (by omega)).mono ?_
    rintro e w3 ⟨r3, rfl, p3, q3, hs3, hk3⟩
    go_wp2_with fail
    go_ret3
    rw [HLO.out] at hs0
    exact ⟨_, _, _, rfl, src_below hs0 hb0 ((hk1.trans hk2).trans hk3)⟩
  obtain ⟨a2, a3⟩ := inB_iff.1 ha
  obtain ⟨b2, b3⟩ := inB_iff.1 hb
  go_wp2_with (go_at_call 67; refine (spec_l32Key_c _ _).mono ?_; rintro e w' ⟨rfl, rfl⟩)
  refine (spec_l01Next_c _ lo g _ hs2 (by omega)).mono ?_
  rintro e w3 ⟨r3, rfl, p3, q3, hs3, hk3⟩
  by_cases h0 : 0 < r3
  · go_wp2_with fail
    refine (spec_l01Next_c _ lo g _ hs3 (by omega)).mono ?_
    rintro e w4 ⟨t, rfl, t0, t1, hs4, hk4⟩
    have ht : t ≤ 51 := by omega
    obtain ⟨c0, c1⟩ := codeI_range' t t0 ht
    obtain ⟨d0, d1⟩ := pw_range (codeI t) a
    go_wp2_with (first
      | (go_at_call 60; refine (spec_l32Code_c _ _ (by omega) (by omega)).mono ?_; rintro e w' ⟨rfl, rfl⟩)
      | (go_at_call 64; refine (spec_l32Power_c _ _ _ (by omega) (by omega) (by omega) (by omega)).mono ?_; rintro e w' ⟨rfl, rfl⟩))
    go_ret3
    rw [HLO.out] at hs0
    exact ⟨_, _, _, rfl, src_below hs0 hb0 (((hk1.trans hk2).trans hk3).trans hk4)⟩
  · go_wp2_with fail
    refine (spec_l01Next_c _ lo g _ hs3 (by omega)).mono ?_
    rintro e w4 ⟨t, rfl, t0, t1, hs4, hk4⟩
    go_wp2_with fail
    go_ret3
    rw [HLO.out] at hs0
    exact ⟨_, _, _, rfl, src_below hs0 hb0 (((hk1.trans hk2).trans hk3).trans hk4)⟩
end Go.Proofs.Ytiglekmlkklofaa
