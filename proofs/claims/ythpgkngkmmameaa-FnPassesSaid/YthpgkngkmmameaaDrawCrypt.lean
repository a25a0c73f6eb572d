/-
  What the reference draws for chapter 32's numbers. Conditions: a code of at most 1048576 bytes.
-/
import Derived.Test.YthpgkngkmmameaaCryptOpen
import Derived.Test.YthpgkngkmmameaaSrc
namespace Go.Proofs.Ythpgkngkmmameaa
open Go.RowKit
set_option linter.unusedVariables false

theorem RI.lit (w : World) (cs : Array Value) (zs : List Int) (h : cs.toList = zs.map (.int .i64)) : RI (w.alloc (.cells cs 2)) (some ⟨w.heap.size, 0, none⟩) zs := by
  refine .inr ⟨w.heap.size, 0, rfl, by simp, fun j x hx => ?_⟩
  rw [World.cell?_alloc_new, Nat.zero_add]
  have : cs.toList[j]? = some (.int .i64 x) := by rw [h]; simp [hx]
  simpa using this
theorem Src.alloc {w : World} {lo g : Nat} (h : Src w lo g) (o : Obj) : Src (w.alloc o) lo g := h.below ((Below.refl _ _).alloc (Nat.le_refl _) o)
/-- A number drawn from a source. -/
def DrawI (w : World) (lo g : Nat) (a b : Int) (e : Ending) (w' : World) : Prop := ∃ r : Int, e = .returned (.int .i64 r) ∧ a ≤ r ∧ r ≤ b ∧ Src w' lo g ∧ Kept g (g + 1) w w'
theorem spec_l32DrawKey_c (w : World) (lo g : Nat) (hs : Src w lo g) : Calls Try.prog 120 #[.pointer (some ⟨g, 0, none⟩)] w (DrawI w lo g (-1) 1019) := by
  go_enter Try.func120, Try.ntmps120
  go_wp2_with fail
  refine (spec_l01Next_c _ lo g _ hs (by omega)).mono ?_
  rintro e w1 ⟨r1, rfl, p1, q1, hs1, hk1⟩
  have z1 := hk1.size
  by_cases h0 : r1 = 0
  · have hb : (r1 == 0) = true := by simp [h0]
    clear h0
    go_wp2_with fail
    refine (spec_l01Pick_c _ lo g _ _ _ [0, 1, 1018, 1019, -1] (hs1.alloc _) rfl (by simp) (by simp) (RI.lit _ _ _ rfl) (fun b off e => by injection e with e; injection e with e1 _; have := hs1.lt; omega)).mono ?_
    rintro e w2 ⟨r2, rfl, m2, hs2, hk2⟩
    have hr2 : -1 ≤ r2 ∧ r2 ≤ 1019 := by simp at m2; omega
    go_wp2_with fail
    go_ret
    exact ⟨r2, rfl, hr2.1, hr2.2, hs2, (hk1.alloc _).trans hk2⟩
  · have hb : (r1 == 0) = false := by simp [h0]
    clear h0
    go_wp2_with fail
    refine (spec_l01Next_c _ lo g _ hs1 (by omega)).mono ?_
    rintro e w2 ⟨r2, rfl, p2, q2, hs2, hk2⟩
    have z2 := hk2.size
    have hr2 : r2 ≤ 1017 := by omega
    go_wp2_with fail
    go_ret
    exact ⟨_, rfl, by omega, by omega, hs2, hk1.trans hk2⟩
/-- A number drawn from a code. -/
def DrawC (w : World) (a b : Int) (e : Ending) (w' : World) : Prop := ∃ r : Int, e = .returned (.int .i64 r) ∧ a ≤ r ∧ r ≤ b ∧ Below w.heap.size w w'
theorem src_below {w w1 w2 : World} {g : Nat} (h1 : Src w1 w.heap.size g) (h2 : Below w.heap.size w w1) (hk : Kept g (g + 1) w1 w2) : Below w.heap.size w w2 := h2.trans (hk.below h1.lt.1 h2.size)
theorem codeI_range' (c : Int) (h0 : 0 ≤ c) (h1 : c ≤ 51) : 0 ≤ codeI c ∧ codeI c ≤ 2038 := by
  unfold codeI
  have := Int.emod_nonneg ((c + 2) * (c + 2)) (show (2039 : Int) ≠ 0 by decide)
  have := Int.emod_lt_of_pos ((c + 2) * (c + 2)) (show (0 : Int) < 2039 by decide)
  omega
end Go.Proofs.Ythpgkngkmmameaa
