/-
  A slice of slices of int64 that is read; a row of booleans of the call's own. Conditions: none.
-/
import Derived.Test.YthpgkngkmmameaaDivide
import Derived.Test.YthpgkngkmmameaaOwn
namespace Go.Proofs.Ythpgkngkmmameaa
open Go.RowKit
set_option linter.unusedVariables false
/-- The rows lie where the outer slice says. -/
def RM (w : World) (A : Option Addr) (rows : List (List Int)) : Prop :=
  rows = [] ∨ ∃ b off, A = some ⟨b, off, none⟩ ∧ b < w.heap.size ∧ ∀ (j : Nat) (zs : List Int), rows[j]? = some zs → ∃ (A' : Option Addr) (c' : Nat), w.cell? ⟨b, off + j, none⟩ = some (.slice A' zs.length c') ∧ RI w A' zs
theorem RM.below {w w' : World} {A : Option Addr} {rows : List (List Int)} (h : RM w A rows) (hb : Below w.heap.size w w') : RM w' A rows := by
  rcases h with h | ⟨b, off, h1, h2, h3⟩
  · exact .inl h
  · refine .inr ⟨b, off, h1, Nat.lt_of_lt_of_le h2 hb.size, fun j zs hj => ?_⟩
    obtain ⟨A', c', e1, e2⟩ := h3 j zs hj
    exact ⟨A', c', (hb.cell (p := ⟨b, off + j, none⟩) h2).trans e1, e2.below hb⟩
theorem RM.split {w : World} {A : Option Addr} {rows : List (List Int)} (h : RM w A rows) : rows.length ≤ 0 ∨ ∃ b off, A = some ⟨b, off, none⟩ ∧ b < w.heap.size ∧ Hid (∀ (j : Nat) (zs : List Int), rows[j]? = some zs → ∃ (A' : Option Addr) (c' : Nat), w.cell? ⟨b, off + j, none⟩ = some (.slice A' zs.length c') ∧ RI w A' zs) := by
  rcases h with h | h
  · exact .inl (by simp [h])
  · exact .inr h
theorem RM.alloc {w : World} {A : Option Addr} {rows : List (List Int)} (h : RM w A rows) (o : Obj) : RM (w.alloc o) A rows := h.below ((Below.refl _ _).alloc (Nat.le_refl _) o)
theorem getM {rows : List (List Int)} {k : Nat} (h : k < rows.length) : ∃ zs, rows[k]? = some zs := ⟨_, List.getElem?_eq_getElem h⟩
theorem info_bool' : (Try.prog.info? 4).map (fun i => (i.zero, i.size, i.bytes)) = some (some (.bool false), 1, 1) := by kernel_rfl
/-- Two rows of the call's own: numbers and booleans. -/
structure FlSt (w wr : World) (g1 g2 : Nat) (ss : List Int) (bs : List Bool) : Prop where
  ne : g1 ≠ g2
  s : OI wr g1 (g1 + 1) (some ⟨g1, 0, none⟩) ss
  b : ∀ j b, bs[j]? = some b → wr.cell? ⟨g2, j, none⟩ = some (.bool b)
  f : ∀ j, wr.frozen? ⟨g2, j, none⟩ = false
  below : Below w.heap.size w wr
  l1 : w.heap.size ≤ g1
  l2 : w.heap.size ≤ g2
  z1 : g1 < wr.heap.size
  z2 : g2 < wr.heap.size
section
variable {w wr w' : World} {g1 g2 : Nat} {ss : List Int} {bs : List Bool}
theorem FlSt.set1 (h : FlSt w wr g1 g2 ss bs) {j : Nat} (hj : j < ss.length) (x : Int) : FlSt w (wr.setCell ⟨g1, j, none⟩ (.int .i64 x)) g1 g2 (ss.set j x) bs := by
  have h1 := h.s.set hj x
  rw [Nat.zero_add] at h1
  have hne := h.ne
  refine ⟨hne, h1, fun i b hb => ?_, fun i => by simpa using h.f i, h.below.setCell h.l1 _, h.l1, h.l2, by simpa [World.setCell] using h.z1, by simpa [World.setCell] using h.z2⟩
  rw [World.cell?_setCell_other _ _ _ _ (fun e => by injection e; omega)]
  exact h.b i b hb
theorem FlSt.set2 (h : FlSt w wr g1 g2 ss bs) {j : Nat} (hj : j < bs.length) (x : Bool) : FlSt w (wr.setCell ⟨g2, j, none⟩ (.bool x)) g1 g2 ss (bs.set j x) := by
  have hne := h.ne
  refine ⟨hne, h.s.kept (Kept.at_ g2 j _ rfl) (by omega), fun i b hb => ?_, fun i => by simpa using h.f i, h.below.setCell h.l2 _, h.l1, h.l2, by simpa [World.setCell] using h.z1, by simpa [World.setCell] using h.z2⟩
  by_cases hij : i = j
  · subst hij
    rw [List.getElem?_set_self hj] at hb
    injection hb with hb
    subst hb
    exact World.cell?_setCell_same _ _ _ (h.b i bs[i] (List.getElem?_eq_getElem hj))
  · rw [List.getElem?_set_ne (by omega)] at hb
    rw [World.cell?_setCell_other _ _ _ _ (fun e => by injection e; omega)]
    exact h.b i b hb
theorem FlSt.step (h : FlSt w wr g1 g2 ss bs) (hb : Below wr.heap.size wr w') : FlSt w w' g1 g2 ss bs :=
  ⟨h.ne, h.s.below hb, fun j b hj => (hb.cell (p := ⟨g2, j, none⟩) h.z2).trans (h.b j b hj), fun j => (hb.frozen (p := ⟨g2, j, none⟩) h.z2).trans (h.f j), below_step h.below hb h.below.size, h.l1, h.l2, Nat.lt_of_lt_of_le h.z1 hb.size, Nat.lt_of_lt_of_le h.z2 hb.size⟩
theorem FlSt.drewN (h : FlSt w wr g1 g2 ss bs) (q : Nat) : FlSt w (wr.drewN q) g1 g2 ss bs := ⟨h.ne, h.s, h.b, h.f, below_drewN h.below _, h.l1, h.l2, h.z1, h.z2⟩
theorem FlSt.cell1 (h : FlSt w wr g1 g2 ss bs) {j : Nat} {x : Int} (hx : ss[j]? = some x) : wr.cell? ⟨g1, j, none⟩ = some (.int .i64 x) ∧ wr.frozen? ⟨g1, j, none⟩ = false := by
  rcases h.s with e | ⟨b, off, e, _, _, _, hc, hf⟩
  · rw [e] at hx; simp at hx
  · injection e with e; injection e with e1 e2; subst e1 e2
    have := hc j x hx
    rw [Nat.zero_add] at this
    exact ⟨this, hf j⟩
theorem FlSt.make {w2 w3 : World} {n : Nat} (hn : 0 < n)
    (h1 : w2.ownsRow w.heap.size 2 1 (.slice (some ⟨w.heap.size, 0, none⟩) n n) n (madeCells (Value.int .i64 0).cells (n * 1)).toList) (k1 : w.grownBy w2 none)
    (h2 : w3.ownsRow w2.heap.size 4 1 (.slice (some ⟨w2.heap.size, 0, none⟩) n n) n (madeCells (Value.bool false).cells (n * 1)).toList) (k2 : w2.grownBy w3 none) :
    FlSt w w3 w.heap.size w2.heap.size (List.replicate n 0) (List.replicate n false) := by
  rw [Nat.mul_one, show (Value.int IntKind.i64 0).cells = #[Value.int IntKind.i64 0] from rfl, toList_madeCells_one, show List.replicate n (Value.int IntKind.i64 0) = (List.replicate n (0 : Int)).map (.int .i64) from by simp] at h1
  rw [Nat.mul_one, show (Value.bool false).cells = #[Value.bool false] from rfl, toList_madeCells_one] at h2
  have b1 : Below w.heap.size w w2 := (Below.refl _ _).grown k1 (Nat.le_refl _) (by simp)
  have b2 : Below w2.heap.size w2 w3 := (Below.refl _ _).grown k2 (Nat.le_refl _) (by simp)
  have l1 : w.heap.size < w2.heap.size := (World.ownsRow.lt h1 _ rfl).2
  have l2 : w2.heap.size < w3.heap.size := (World.ownsRow.lt h2 _ rfl).2
  refine ⟨Nat.ne_of_lt l1, ((OI.of_row h1).below b2).exact, fun j b hj => ?_, fun j => h2.frozenAt j, below_step b1 b2 b1.size, Nat.le_refl _, b1.size, Nat.lt_of_lt_of_le l1 b2.size, l2⟩
  have hjl := (List.getElem?_eq_some_iff.1 hj).1
  rw [List.length_replicate] at hjl
  rw [h2.cellAt j (by omega), List.getElem?_replicate, if_pos hjl]
  rw [List.getElem?_replicate, if_pos hjl] at hj
  injection hj with hj
  rw [hj]
end
end Go.Proofs.Ythpgkngkmmameaa
