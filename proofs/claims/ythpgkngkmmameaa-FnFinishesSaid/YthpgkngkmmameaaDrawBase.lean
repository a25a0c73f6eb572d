/-
  Small facts on drawing: a literal list, a source behind an allocation, numbers drawn. Conditions: none.
-/
import Derived.Test.YthpgkngkmmameaaDrawRow
import Derived.Test.YthpgkngkmmameaaSpread
namespace Go.Proofs.Ythpgkngkmmameaa
open Go.RowKit
set_option linter.unusedVariables false
theorem RI.lit (w : World) (cs : Array Value) (zs : List Int) (h : cs.toList = zs.map (.int .i64)) : RI (w.alloc (.cells cs 2)) (some ⟨w.heap.size, 0, none⟩) zs := by
  refine .inr ⟨w.heap.size, 0, rfl, by simp, fun j x hx => ?_⟩
  rw [World.cell?_alloc_new, Nat.zero_add]
  have : cs.toList[j]? = some (.int .i64 x) := by rw [h]; simp [hx]
  simpa using this
theorem RI.litH (w : World) (cs : Array Value) (zs : List Int) (H : Nat) (hH : w.heap.size = H) (h : cs.toList = zs.map (.int .i64)) : RI (w.alloc (.cells cs 2)) (some ⟨H, 0, none⟩) zs := by
  subst hH; exact RI.lit w cs zs h
theorem OI.lit (w : World) (cs : Array Value) (zs : List Int) (lo hi : Nat) (h : cs.toList = zs.map (.int .i64)) (h1 : lo ≤ w.heap.size) (h2 : w.heap.size < hi) : OI (w.alloc (.cells cs 2)) lo hi (some ⟨w.heap.size, 0, none⟩) zs := by
  refine .inr ⟨w.heap.size, 0, rfl, h1, h2, by simp, fun j x hx => ?_, fun j => by simp⟩
  rw [World.cell?_alloc_new, Nat.zero_add]
  have : cs.toList[j]? = some (.int .i64 x) := by rw [h]; simp [hx]
  simpa using this
theorem RI.alloc {w : World} {A : Option Addr} {zs : List Int} (h : RI w A zs) (o : Obj) : RI (w.alloc o) A zs := h.below ((Below.refl _ _).alloc (Nat.le_refl _) o)
theorem Src.alloc {w : World} {lo g : Nat} (h : Src w lo g) (o : Obj) : Src (w.alloc o) lo g := h.below ((Below.refl _ _).alloc (Nat.le_refl _) o)
/-- A number drawn from a source. -/
def DrawI (w : World) (lo g : Nat) (a b : Int) (e : Ending) (w' : World) : Prop := ∃ r : Int, e = .returned (.int .i64 r) ∧ a ≤ r ∧ r ≤ b ∧ Src w' lo g ∧ Kept g (g + 1) w w'
theorem src_below {w w1 w2 : World} {g : Nat} (h1 : Src w1 w.heap.size g) (h2 : Below w.heap.size w w1) (hk : Kept g (g + 1) w1 w2) : Below w.heap.size w w2 := h2.trans (hk.below h1.lt.1 h2.size)
theorem Row.cap {w : World} {base : Nat} {A : Option Addr} {n c : Nat} {zs : List Int} (h : Row w base A n c zs) : n ≤ c := by
  rcases h.2 with ⟨hv, h0⟩ | ⟨g, cap, cur, hv, _, _, hn, _⟩
  · omega
  · injection hv with _ _ e; omega
theorem OI.take {w : World} {lo hi : Nat} {A : Option Addr} {zs : List Int} (h : OI w lo hi A zs) (n : Nat) : OI w lo hi A (zs.take n) := by
  rcases h with h | ⟨b, off, e, l1, l2, h2, h3, h4⟩
  · exact .inl (by rw [h]; simp)
  · refine .inr ⟨b, off, e, l1, l2, h2, fun j x hx => h3 j x ?_, h4⟩
    rw [List.getElem?_take] at hx
    split at hx
    · exact hx
    · cases hx
/-- A list that is drawn: it lies above where the draw began, and its length fits its capacity. -/
def DL (w : World) (lo g : Nat) (a b : Nat) (e : Ending) (w' : World) : Prop :=
  ∃ (A : Option Addr) (n c : Nat) (zs : List Int), e = .returned (.slice A n c) ∧ Hid (zs.length = n) ∧ a ≤ n ∧ n ≤ b ∧ n ≤ c ∧ OI w' w.heap.size w'.heap.size A zs ∧ Src w' lo g ∧ Kept g (g + 1) w w'
end Go.Proofs.Ythpgkngkmmameaa
