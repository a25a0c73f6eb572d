/-
  A row stays a row when one of its elements is set. Conditions: the index is in range.
-/
import Derived.Test.YthpgkngkmmameaaOwn
import Derived.Test.YthpgkngkmmameaaSteps
namespace Go.Proofs.Ythpgkngkmmameaa
open Go.RowKit
set_option linter.unusedVariables false
/-- The block's shape: cells of int64, as many as the capacity. -/
def Sha (w : World) (g c : Nat) : Prop := ∃ cur, w.heap[g]? = some (.cells cur 2 (0, 0)) ∧ cur.size = c ∧ c ≤ maxLen
theorem Sha.set {w : World} {g c : Nat} (h : Sha w g c) (p : Addr) (u : Value) : Sha (w.setCell p u) g c := by
  obtain ⟨cur, h1, h2, h3⟩ := h
  unfold Sha World.setCell
  simp only [Array.getElem?_modify]
  by_cases hp : p.block = g
  · subst hp
    rw [if_pos rfl, h1]
    exact ⟨_, rfl, by split <;> simp [h2], h3⟩
  · rw [if_neg hp]
    exact ⟨cur, h1, h2, h3⟩
theorem Sha.lt {w : World} {g c : Nat} (h : Sha w g c) : g < w.heap.size := by
  obtain ⟨cur, h1, -⟩ := h
  exact (Array.getElem?_eq_some_iff.1 h1).1
theorem Sha.below {w w' : World} {g c : Nat} (h : Sha w g c) (hb : Below w.heap.size w w') : Sha w' g c := by
  have hl := h.lt
  obtain ⟨cur, h1, h2⟩ := h
  exact ⟨cur, (hb.block g hl).trans h1, h2⟩
theorem Sha.of {w : World} {base g n c : Nat} {zs : List Int} (h : Row w base (some ⟨g, 0, none⟩) n c zs) : Sha w g c ∧ n ≤ c := by
  rcases h.2 with ⟨hv, _⟩ | ⟨g', cap, cur, hv, _, hg, h1, h2, h3, _⟩
  · cases hv
  · injection hv with hv e1 e2
    injection hv with hv
    injection hv with hv
    subst hv
    subst e2
    exact ⟨⟨cur, hg, by omega, h2⟩, h1⟩
theorem Sha.row {w : World} {lo hi base g n c : Nat} {zs : List Int} (h : Sha w g c) (ho : OI w lo hi (some ⟨g, 0, none⟩) zs) (hl : zs.length = n) (h0 : 0 < n) (hc : n ≤ c) (hb : base ≤ g) : Row w base (some ⟨g, 0, none⟩) n c zs := by
  obtain ⟨cur, h1, h2, h3⟩ := h
  refine ⟨by simpa using hl, .inr ⟨g, c, cur, rfl, hb, h1, hc, h3, by omega, ?_⟩⟩
  apply List.ext_getElem?
  intro j
  rw [Nat.mul_one]
  by_cases hj : j < n
  · obtain ⟨x, hx⟩ := get_some (zs := zs) (k := j) (by omega)
    have hcell := (ho.cellX hx).1
    rw [Nat.zero_add, World.cell?_of_block (w := w) (w' := w) (a := ⟨g, j, none⟩) rfl] at hcell
    have hcj : cur[j]? = some (.int .i64 x) := by
      simp only [World.cell?, h1] at hcell
      simpa using hcell
    rw [List.getElem?_take_of_lt hj, List.getElem?_map, hx]
    simpa using hcj
  · rw [List.getElem?_eq_none (by simp; omega), List.getElem?_eq_none (by simp; omega)]
theorem Row.set {w : World} {base g n c : Nat} {zs : List Int} (h : Row w base (some ⟨g, 0, none⟩) n c zs) {j : Nat} (hj : j < n) (x : Int) : Row (w.setCell ⟨g, j, none⟩ (.int .i64 x)) base (some ⟨g, 0, none⟩) n c (zs.set j x) := by
  have hl := h.length
  obtain ⟨hs, hc⟩ := Sha.of h
  have ho := OI.set h.oi (j := j) (by omega) x
  rw [Nat.zero_add] at ho
  exact (hs.set ⟨g, j, none⟩ (.int .i64 x)).row ho (by rw [List.length_set]; exact hl) (by omega) hc (World.ownsRow.lt h g rfl).1
end Go.Proofs.Ythpgkngkmmameaa
