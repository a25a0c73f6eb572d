/-
  What the reference draws for chapter 33's bets. Conditions: a code of at most 1048576 bytes.
-/
import Derived.Test.YtcdianhemnpmcaaDrop
import Derived.Test.YtcdianhemnpmcaaArgB
namespace Go.Proofs.Ytcdianhemnpmcaa
open Go.RowKit
set_option linter.unusedVariables false

theorem RI.lit (w : World) (cs : Array Value) (zs : List Int) (h : cs.toList = zs.map (.int .i64)) : RI (w.alloc (.cells cs 2)) (some ⟨w.heap.size, 0, none⟩) zs := by
  refine .inr ⟨w.heap.size, 0, rfl, by simp, fun j x hx => ?_⟩
  rw [World.cell?_alloc_new, Nat.zero_add]
  have : cs.toList[j]? = some (.int .i64 x) := by rw [h]; simp [hx]
  simpa using this
theorem Src.alloc {w : World} {lo g : Nat} (h : Src w lo g) (o : Obj) : Src (w.alloc o) lo g := h.below ((Below.refl _ _).alloc (Nat.le_refl _) o)
/-- A number drawn from a source. -/
def DrawI (w : World) (lo g : Nat) (a b : Int) (e : Ending) (w' : World) : Prop := ∃ r : Int, e = .returned (.int .i64 r) ∧ a ≤ r ∧ r ≤ b ∧ Src w' lo g ∧ Kept g (g + 1) w w'

theorem spec_l33DrawBet_c (w : World) (lo g : Nat) (hs : Src w lo g) : Calls Try.prog 64 #[.pointer (some ⟨g, 0, none⟩)] w fun e w' => ∃ a b : Int, e = .returned (.tuple #[.int .i64 a, .int .i64 b]) ∧ 0 ≤ a ∧ a ≤ 31 ∧ 0 ≤ b ∧ b ≤ 31 ∧ Src w' lo g ∧ Kept g (g + 1) w w' := by
  go_enter Try.func64, Try.ntmps64
  go_wp2_with fail
  refine (spec_l01Next_c _ lo g _ hs (by omega)).mono ?_
  rintro e w1 ⟨r1, rfl, p1, q1, hs1, hk1⟩
  have z1 := hk1.size
  have e1 : r1 ≤ 29 := by omega
  go_wp2_with fail
  refine (spec_l01Pick_c _ lo g _ _ _ [1, 2, 3, 5, 1 + r1, 0, 31] (hs1.alloc _) rfl (by simp) (by simp) (RI.lit _ _ _ rfl) (fun b off e => by injection e with e; injection e with e1 _; have := hs1.lt; omega)).mono ?_
  rintro e w2 ⟨r2, rfl, m2, hs2, hk2⟩
  have a2 : 0 ≤ r2 ∧ r2 ≤ 31 := by simp at m2; omega
  go_wp2_with fail
  refine (spec_l01Next_c _ lo g _ hs2 (by omega)).mono ?_
  rintro e w3 ⟨r3, rfl, p3, q3, hs3, hk3⟩
  have z3 := hk3.size
  have e3 : r3 ≤ 29 := by omega
  go_wp2_with fail
  refine (spec_l01Pick_c _ lo g _ _ _ [1, 2, 3, 4, 1 + r3] (hs3.alloc _) rfl (by simp) (by simp) (RI.lit _ _ _ rfl) (fun b off e => by injection e with e; injection e with e1 _; have := hs3.lt; omega)).mono ?_
  rintro e w4 ⟨r4, rfl, m4, hs4, hk4⟩
  have a4 : 0 ≤ r4 ∧ r4 ≤ 31 := by simp at m4; omega
  go_wp2_with fail
  go_ret2
  exact ⟨r2, r4, rfl, a2.1, a2.2, a4.1, a4.2, hs4, ((hk1.alloc _).trans hk2).trans ((hk3.alloc _).trans hk4)⟩
theorem src_below {w w1 w2 : World} {g : Nat} (h1 : Src w1 w.heap.size g) (h2 : Below w.heap.size w w1) (hk : Kept g (g + 1) w1 w2) : Below w.heap.size w w2 := h2.trans (hk.below h1.lt.1 h2.size)
theorem spec_DrawGrowthShare_c (A : Option Addr) (n c : Nat) (bs : List Int) (w : World) (hn : bs.length = n) (hm : n ≤ 1048576) (hr : BR w A bs) :
    Calls Try.prog 39 #[.slice A n c] w fun e w' => ∃ a b : Int, e = .returned (.tuple #[.int .i64 a, .int .i64 b]) ∧ Below w.heap.size w w' := by
  go_enter Try.func39, Try.ntmps39
  go_wp2_with fail
  refine (spec_l01From_c A n c bs _ hn hm hr).mono ?_
  rintro e w1 ⟨g, rfl, hs1, hb1⟩
  go_wp2_with fail
  refine (spec_l33DrawBet_c _ _ g hs1).mono ?_
  rintro e w2 ⟨a, b, rfl, a0, a1, b0, b1, hs2, hk2⟩
  go_wp2_with fail
  go_ret2
  exact ⟨a, b, rfl, src_below hs1 hb1 hk2⟩
theorem spec_DrawRuinChance_c (A : Option Addr) (n c : Nat) (bs : List Int) (w : World) (hn : bs.length = n) (hm : n ≤ 1048576) (hr : BR w A bs) :
    Calls Try.prog 37 #[.slice A n c] w fun e w' => ∃ a b d : Int, e = .returned (.tuple #[.int .i64 a, .int .i64 b, .int .i64 d]) ∧ 0 ≤ d ∧ d ≤ 41 ∧ Below w.heap.size w w' := by
  go_enter Try.func37, Try.ntmps37
  go_wp2_with fail
  refine (spec_l01From_c A n c bs _ hn hm hr).mono ?_
  rintro e w0 ⟨g, rfl, hs0, hb0⟩
  obtain ⟨lo, hlo⟩ : ∃ lo, lo = w.heap.size := ⟨_, rfl⟩
  rw [← hlo] at hs0
  have HLO := Lib.hid hlo
  clear hlo
  go_wp2_with fail
  refine (spec_l33DrawBet_c _ _ g hs0).mono ?_
  rintro e w1 ⟨a, b, rfl, a0, a1, b0, b1, hs1, hk1⟩
  go_wp2_with fail
  refine (spec_l01Next_c _ lo g _ hs1 (by omega)).mono ?_
  rintro e w2 ⟨r2, rfl, p2, q2, hs2, hk2⟩
  have z2 := hk2.size
  have e2 : r2 ≤ 11 := by omega
  go_wp2_with fail
  refine (spec_l01Pick_c _ lo g _ _ _ [1, 2, 3, 4, 1 + r2, 40, 41, 0] (hs2.alloc _) rfl (by simp) (by simp) (RI.lit _ _ _ rfl) (fun b off e => by injection e with e; injection e with e1 _; have := hs2.lt; omega)).mono ?_
  rintro e w3 ⟨r3, rfl, m3, hs3, hk3⟩
  have a3 : 0 ≤ r3 ∧ r3 ≤ 41 := by simp at m3; omega
  go_wp2_with fail
  go_ret3
  rw [HLO.out] at hs0
  exact ⟨a, b, r3, rfl, a3.1, a3.2, src_below hs0 hb0 (hk1.trans ((hk2.alloc _).trans hk3))⟩
theorem spec_DrawTargetChance_c (A : Option Addr) (n c : Nat) (bs : List Int) (w : World) (hn : bs.length = n) (hm : n ≤ 1048576) (hr : BR w A bs) :
    Calls Try.prog 38 #[.slice A n c] w fun e w' => ∃ a b d t : Int, e = .returned (.tuple #[.int .i64 a, .int .i64 b, .int .i64 d, .int .i64 t]) ∧ Below w.heap.size w w' := by
  go_enter Try.func38, Try.ntmps38
  go_wp2_with fail
  refine (spec_l01From_c A n c bs _ hn hm hr).mono ?_
  rintro e w0 ⟨g, rfl, hs0, hb0⟩
  obtain ⟨lo, hlo⟩ : ∃ lo, lo = w.heap.size := ⟨_, rfl⟩
  rw [← hlo] at hs0
  have HLO := Lib.hid hlo
  clear hlo
  have HLB := Lib.hid hb0
  clear hb0
  go_wp2_with fail
  refine (spec_DrawRuinChance_c A n c bs _ hn hm (hr.below HLB.out)).mono ?_
  rintro e w1 ⟨a, b, d, rfl, d0, d1, hb1⟩
  have hs1 := hs0.below hb1
  go_wp2_with fail
  refine (spec_l01Next_c _ lo g _ hs1 (by omega)).mono ?_
  rintro e w2 ⟨r2, rfl, p2, q2, hs2, hk2⟩
  have z2 := hk2.size
  have e2 : r2 ≤ 5 := by omega
  go_wp2_with fail
  refine (spec_l01Next_c _ lo g _ hs2 (by omega)).mono ?_
  rintro e w3 ⟨r3, rfl, p3, q3, hs3, hk3⟩
  have z3 := hk3.size
  have e3 : r3 ≤ 19 := by omega
  go_wp2_with fail
  refine bodyPost_ret (results_tmp4 rfl _ _ _) rfl ?_
  rw [HLO.out] at hs1
  have hb2 := HLB.out.trans (hb1.mono HLB.out.size)
  exact ⟨_, _, _, _, rfl, src_below hs1 hb2 (hk2.trans hk3)⟩
end Go.Proofs.Ytcdianhemnpmcaa
