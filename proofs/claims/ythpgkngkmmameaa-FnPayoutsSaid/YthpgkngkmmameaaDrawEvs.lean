/-
  The events that the reference draws for chapter 31, behind a source of their own. Conditions: a code of at most 1048576 bytes.
-/
import Derived.Test.YthpgkngkmmameaaDrawEv
namespace Go.Proofs.Ythpgkngkmmameaa
open Go.RowKit
set_option linter.unusedVariables false
/-- An event is handed back, which may be read. -/
def DP (w : World) (e : Ending) (w' : World) : Prop := ∃ (N B F G : Int) (A : Option Addr) (n c : Nat) (S : List Int), e = .returned (.agg #[.int .i64 N, .int .i64 B, .int .i64 F, .int .i64 G, .slice A n c]) ∧ Hid (S.length = n) ∧ n ≤ 6 ∧ OI w' w.heap.size w'.heap.size A S ∧ Below w.heap.size w w'
theorem DP.mk {w w1 w' : World} {lo n c : Nat} {N B F G : Int} {A : Option Addr} {S : List Int} (hk : Kept w.heap.size (w.heap.size + 1) w1 w') (h : Below w.heap.size w w1) (ho : OI w1 lo w1.heap.size A S) (ha : w.heap.size < lo) (hl : Hid (S.length = n)) (hn : n ≤ 6) :
    DP w (.returned (.agg #[.int .i64 N, .int .i64 B, .int .i64 F, .int .i64 G, .slice A n c])) w' :=
  ⟨N, B, F, G, A, n, c, S, rfl, hl, hn, ((ho.kept hk (.inl (by omega))).top).widen (by omega) (Nat.le_refl _), h.trans (hk.below (Nat.le_refl _) h.size)⟩
theorem spec_DrawPayoutsOf_c (A : Option Addr) (n c : Nat) (bs : List Int) (w : World) (hn : bs.length = n) (hm : n ≤ 1048576) (hr : BR w A bs) :
    Calls Try.prog 56 #[.slice A n c] w (DP w) := by
  obtain ⟨W, hW⟩ : ∃ W, W = w.alloc (.cells #[.int .i64 0, .int .i64 0, .int .i64 0, .int .i64 0, .slice none 0 0] 58) := ⟨_, rfl⟩
  have E0 := Lib.hid (show E5 58 W w.heap.size 0 0 0 0 none 0 0 by rw [hW]; exact E5.new 58 w 0 0 0 0 none 0 0)
  have B0 := Lib.hid (show Below w.heap.size w W by rw [hW]; exact below_box _ _)
  have hsz : w.heap.size < W.heap.size := by rw [hW]; simp
  have hrW := Lib.hid (hr.below B0.out)
  have HW := Lib.hid hW
  clear hr
  go_enter Try.func56, Try.ntmps56
  go_wp2_with fail
  rw [← HW.out]
  refine (spec_l01From_c A n c bs _ hn hm hrW.out).mono ?_
  rintro e w0 ⟨g, rfl, hs0, hb0⟩
  have hgg := hs0.lt.1
  have E1 := Lib.hid (E0.out.below hb0)
  have B1 := Lib.hid (below_step B0.out hb0 B0.out.size)
  have hz0 := hb0.size
  clear hn hm hb0 hW hrW
  go_wp2_with fail
  refine (spec_l31Draw_c _ _ g hs0).mono ?_
  rintro e w1 ⟨N, B, F, G, A', n', c', S, rfl, hl, hn6, ho, hs1, hk1⟩
  have HO := Lib.hid ho
  have E2 := Lib.hid (E1.out.kept hk1 (.inl (by omega)))
  have B2 := Lib.hid (B1.out.trans (hk1.below (B := w.heap.size) (by omega) (by omega)))
  have hlo : w.heap.size < w0.heap.size := by omega
  clear hk1 hs1 ho hs0
  obtain ⟨b0, b1, b2, b3, b4⟩ := E2.out.cells
  have f0 := E2.out.frz 0
  have f1 := E2.out.frz 1
  have f2 := E2.out.frz 2
  have f3 := E2.out.frz 3
  have f4 := E2.out.frz 4
  go_wp2_with fail
  refine bodyPost_ret (v := .agg #[.int .i64 N, .int .i64 B, .int .i64 F, .int .i64 G, .slice A' n' c']) (by simp [results, Try.results56, go_sem, b0, b1, b2, b3, b4]) rfl ?_
  exact DP.mk (kept5 _ _ _ _ _ _ _) B2.out HO.out hlo hl hn6
end Go.Proofs.Ythpgkngkmmameaa
