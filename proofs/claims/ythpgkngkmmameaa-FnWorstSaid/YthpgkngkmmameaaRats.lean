/-
  Slices of ratios: what is read (RQ), what a call owns (OQ), a row that grows (RowQ); the laws' comparison, marks and likeness. Conditions: at most 1048576 elements.
-/
import Derived.Test.YthpgkngkmmameaaRatOps
import Derived.Test.YthpgkngkmmameaaEqRatio
import Derived.Test.YthpgkngkmmameaaLaw
import Derived.Deep.RegionHeld3
import Derived.Outline
namespace Go.Proofs.Ythpgkngkmmameaa
open Go.RowKit
set_option linter.unusedVariables false
/-- The ratios lie at the head of block g. -/
def CQ (w : World) (g : Nat) (qs : List (Int × Int)) : Prop := ∀ (j : Nat) (x y : Int), qs[j]? = some (x, y) → w.cell? ⟨g, j * 2, none⟩ = some (.int .i64 x) ∧ w.cell? ⟨g, j * 2 + 1, none⟩ = some (.int .i64 y)
def RQ (w : World) (A : Option Addr) (qs : List (Int × Int)) : Prop := qs = [] ∨ ∃ g, A = some ⟨g, 0, none⟩ ∧ g < w.heap.size ∧ CQ w g qs
def OQ (w : World) (lo hi : Nat) (A : Option Addr) (qs : List (Int × Int)) : Prop := qs = [] ∨ ∃ g, A = some ⟨g, 0, none⟩ ∧ lo ≤ g ∧ g < hi ∧ g < w.heap.size ∧ CQ w g qs ∧ ∀ j, w.frozen? ⟨g, j, none⟩ = false
theorem CQ.block {w w' : World} {g : Nat} {qs : List (Int × Int)} (h : CQ w g qs) (hb : w'.heap[g]? = w.heap[g]?) : CQ w' g qs := fun j x y hx =>
  ⟨(World.cell?_of_block (a := ⟨g, j * 2, none⟩) hb).trans (h j x y hx).1, (World.cell?_of_block (a := ⟨g, j * 2 + 1, none⟩) hb).trans (h j x y hx).2⟩
theorem RQ.nil (w : World) (A : Option Addr) : RQ w A [] := .inl rfl
theorem OQ.nil (w : World) (lo hi : Nat) (A : Option Addr) : OQ w lo hi A [] := .inl rfl
section
variable {w w' : World} {A : Option Addr} {qs : List (Int × Int)} {lo hi : Nat}
theorem OQ.ri (h : OQ w lo hi A qs) : RQ w A qs := by
  rcases h with h | ⟨g, h1, _, _, h2, h3, _⟩
  · exact .inl h
  · exact .inr ⟨g, h1, h2, h3⟩
theorem RQ.split (h : RQ w A qs) : qs.length ≤ 0 ∨ ∃ g, A = some ⟨g, 0, none⟩ ∧ g < w.heap.size ∧ Hid (CQ w g qs) := by
  rcases h with h | h
  · exact .inl (by simp [h])
  · exact .inr h
theorem RQ.below (h : RQ w A qs) (hb : Below w.heap.size w w') : RQ w' A qs := by
  rcases h with h | ⟨g, h1, h2, h3⟩
  · exact .inl h
  · exact .inr ⟨g, h1, Nat.lt_of_lt_of_le h2 hb.size, h3.block (hb.block g h2)⟩
theorem OQ.below (h : OQ w lo hi A qs) (hb : Below w.heap.size w w') : OQ w' lo hi A qs := by
  rcases h with h | ⟨g, h1, l1, l2, h2, h3, h4⟩
  · exact .inl h
  · exact .inr ⟨g, h1, l1, l2, Nat.lt_of_lt_of_le h2 hb.size, h3.block (hb.block g h2), fun j => (hb.frozen (p := ⟨g, j, none⟩) h2).trans (h4 j)⟩
theorem OQ.kept {l h' : Nat} (h : OQ w lo hi A qs) (hk : Kept l h' w w') (hd : h' ≤ lo ∨ hi ≤ l) : OQ w' lo hi A qs := by
  rcases h with h | ⟨g, h1, l1, l2, h2, h3, h4⟩
  · exact .inl h
  · have hb : w'.heap[g]? = w.heap[g]? := hk.block g h2 (by omega)
    exact .inr ⟨g, h1, l1, l2, Nat.lt_of_lt_of_le h2 hk.size, h3.block hb, fun j => (World.frozen?_of_block (a := ⟨g, j, none⟩) hb).trans (h4 j)⟩
theorem RQ.kept {l h' : Nat} (h : RQ w A qs) (hk : Kept l h' w w') (hd : w.heap.size ≤ l ∨ ∀ g, A = some ⟨g, 0, none⟩ → ¬ (l ≤ g ∧ g < h')) : RQ w' A qs := by
  rcases h with h | ⟨g, h1, h2, h3⟩
  · exact .inl h
  · have hb : w'.heap[g]? = w.heap[g]? := hk.block g h2 (by
      rcases hd with hd | hd
      · omega
      · exact hd g h1)
    exact .inr ⟨g, h1, Nat.lt_of_lt_of_le h2 hk.size, h3.block hb⟩
theorem OQ.widen {lo' hi' : Nat} (h : OQ w lo hi A qs) (h1 : lo' ≤ lo) (h2 : hi ≤ hi') : OQ w lo' hi' A qs := by
  rcases h with h | ⟨g, e, l1, l2, r⟩
  · exact .inl h
  · exact .inr ⟨g, e, by omega, by omega, r⟩
theorem OQ.lt {g : Nat} (h : OQ w lo hi (some ⟨g, 0, none⟩) qs) (hj : 0 < qs.length) : lo ≤ g ∧ g < hi ∧ g < w.heap.size := by
  rcases h with h | ⟨g', e, l1, l2, h2, _⟩
  · subst h; simp at hj
  · injection e with e; injection e with e1 e2; subst e1
    exact ⟨l1, l2, h2⟩
theorem OQ.at_ {g : Nat} (h : OQ w lo hi (some ⟨g, 0, none⟩) qs) {j : Nat} {x y : Int} (hx : qs[j]? = some (x, y)) : w.cell? ⟨g, j * 2, none⟩ = some (.int .i64 x) ∧ w.cell? ⟨g, j * 2 + 1, none⟩ = some (.int .i64 y) ∧ w.frozen? ⟨g, j * 2, none⟩ = false ∧ w.frozen? ⟨g, j * 2 + 1, none⟩ = false := by
  rcases h with h | ⟨g', e, l1, l2, h2, h3, h4⟩
  · subst h; simp at hx
  · injection e with e; injection e with e1 e2; subst e1
    exact ⟨(h3 j x y hx).1, (h3 j x y hx).2, h4 _, h4 _⟩
/-- A store of a ratio in range. -/
theorem OQ.set {g : Nat} (h : OQ w lo hi (some ⟨g, 0, none⟩) qs) {j : Nat} (hj : j < qs.length) (x y : Int) : OQ ((w.setCell ⟨g, j * 2, none⟩ (.int .i64 x)).setCell ⟨g, j * 2 + 1, none⟩ (.int .i64 y)) lo hi (some ⟨g, 0, none⟩) (qs.set j (x, y)) := by
  rcases h with h | ⟨g', e, l1, l2, h2, h3, h4⟩
  · subst h; simp at hj
  · injection e with e; injection e with e1 e2; subst e1
    refine .inr ⟨g, rfl, l1, l2, by simpa [World.setCell] using h2, fun i a b hab => ?_, fun i => by simpa using h4 i⟩
    obtain ⟨c0, c1⟩ := h3 j qs[j].1 qs[j].2 (by simp [List.getElem?_eq_getElem hj])
    by_cases hij : i = j
    · subst hij
      rw [List.getElem?_set_self hj] at hab
      injection hab with hab
      injection hab with e1 e2
      subst e1 e2
      refine ⟨?_, ?_⟩
      · rw [World.cell?_setCell_other _ _ _ _ (fun e => by injection e; omega)]
        exact World.cell?_setCell_same w _ _ c0
      · have c2 : (w.setCell ⟨g, i * 2, none⟩ (.int .i64 x)).cell? ⟨g, i * 2 + 1, none⟩ = some (.int .i64 qs[i].2) := by
          rw [World.cell?_setCell_other _ _ _ _ (fun e => by injection e; omega)]
          exact c1
        exact World.cell?_setCell_same _ _ _ c2
    · rw [List.getElem?_set_ne (by omega)] at hab
      rw [World.cell?_setCell_other _ _ _ _ (fun e => by injection e; omega), World.cell?_setCell_other _ _ _ _ (fun e => by injection e; omega), World.cell?_setCell_other _ _ _ _ (fun e => by injection e; omega), World.cell?_setCell_other _ _ _ _ (fun e => by injection e; omega)]
      exact h3 i a b hab
end
/-- What a call hands back: a list of ratios of its own and a code. -/
def LQ (w : World) (qs : List (Int × Int)) (E : Int) (e : Ending) (w' : World) : Prop :=
  ∃ (A : Option Addr) (n c : Nat), e = .returned (.tuple #[.slice A n c, .int .i64 E]) ∧ Hid (qs.length = n) ∧ n ≤ 1048576 ∧ OQ w' w.heap.size w'.heap.size A qs ∧ Below w.heap.size w w'
theorem LQ.mk {w w' : World} {qs : List (Int × Int)} {E E' : Int} {A : Option Addr} {n c : Nat} (h1 : E' = E) (h2 : qs.length = n) (h3 : n ≤ 1048576) (h4 : OQ w' w.heap.size w'.heap.size A qs) (h5 : Below w.heap.size w w') : LQ w qs E (.returned (.tuple #[.slice A n c, .int .i64 E'])) w' :=
  ⟨A, n, c, by rw [h1], Lib.hid h2, h3, h4, h5⟩
theorem get_q {qs : List (Int × Int)} {k : Nat} (h : k < qs.length) : ∃ x y, qs[k]? = some (x, y) := ⟨qs[k].1, qs[k].2, by simp [List.getElem?_eq_getElem h]⟩
/-- A row of ratios that the call owns and may append to. -/
def RowQ (w : World) (base : Nat) (A : Option Addr) (n c : Nat) (qs : List (Int × Int)) : Prop := w.ownsRow base 48 2 (.slice A n c) n (qs.flatMap fun q => [Value.int .i64 q.1, Value.int .i64 q.2])
theorem flat_len2 (qs : List (Int × Int)) : (qs.flatMap fun q => [Value.int .i64 q.1, Value.int .i64 q.2]).length = qs.length * 2 := by
  induction qs with
  | nil => rfl
  | cons q qs ih => simp [List.flatMap_cons] at ih ⊢; omega
theorem flat_get2 : ∀ (qs : List (Int × Int)) (j : Nat) (x y : Int), qs[j]? = some (x, y) → (qs.flatMap fun q => [Value.int .i64 q.1, Value.int .i64 q.2])[j * 2]? = some (.int .i64 x) ∧ (qs.flatMap fun q => [Value.int .i64 q.1, Value.int .i64 q.2])[j * 2 + 1]? = some (.int .i64 y) := by
  intro qs
  induction qs with
  | nil => intro j x y h; simp at h
  | cons q qs ih =>
    intro j x y h
    cases j with
    | zero =>
      simp at h
      subst h
      exact ⟨rfl, rfl⟩
    | succ j =>
      have h' : qs[j]? = some (x, y) := by simpa using h
      have := ih j x y h'
      rw [List.flatMap_cons, show (j + 1) * 2 = j * 2 + 1 + 1 by omega]
      exact this
theorem RowQ.length {w : World} {base : Nat} {A : Option Addr} {n c : Nat} {qs : List (Int × Int)} (h : RowQ w base A n c qs) : qs.length = n := by have := h.1; rw [flat_len2] at this; omega
theorem RowQ.empty (w : World) {base : Nat} (hb : base ≤ w.heap.size) : RowQ (w.alloc (.cells #[] 48)) base (some ⟨w.heap.size, 0, none⟩) 0 0 [] :=
  World.ownsRow_made w #[] 0 hb (Nat.zero_le _) rfl
theorem RowQ.nil (w : World) (base : Nat) : RowQ w base none 0 0 [] := World.ownsRow_nil w base _ _
theorem RowQ.alloc {w : World} {base : Nat} {A : Option Addr} {n c : Nat} {qs : List (Int × Int)} (h : RowQ w base A n c qs) (o : Obj) : RowQ (w.alloc o) base A n c qs := World.ownsRow.alloc h o
theorem RowQ.below {w w' : World} {base : Nat} {A : Option Addr} {n c : Nat} {qs : List (Int × Int)} (h : RowQ w base A n c qs) (hb : Below w.heap.size w w') : RowQ w' base A n c qs := by
  refine World.ownsRow.kept (row := none) h ⟨hb.os, hb.tape, hb.output, hb.size, fun k hk _ => hb.block k hk⟩ ?_
  cases hv : (Value.slice A n c).ownBlock <;> simp
theorem RowQ.oq {w : World} {base : Nat} {A : Option Addr} {n c : Nat} {qs : List (Int × Int)} (h : RowQ w base A n c qs) : OQ w base w.heap.size A qs := by
  rcases h.2 with ⟨he, h0⟩ | ⟨g, cap, cur, hv, hg, hh, hn, hc, hs, ht⟩
  · subst h0
    have := h.length
    exact .inl (List.eq_nil_of_length_eq_zero this)
  · injection hv with hA _ _
    subst hA
    have hlt : g < w.heap.size := (Array.getElem?_eq_some_iff.1 hh).1
    refine .inr ⟨g, rfl, hg, hlt, hlt, fun j x y hx => ?_, fun j => by simp [World.frozen?, hh]⟩
    obtain ⟨h1, h2⟩ := flat_get2 qs j x y hx
    have c1 := World.ownsRow.cells h (g := g) rfl (j * 2) _ h1
    have c2 := World.ownsRow.cells h (g := g) rfl (j * 2 + 1) _ h2
    rw [Addr.add_lit, Nat.zero_add] at c1 c2
    exact ⟨c1, c2⟩
theorem RowQ.addr {w : World} {base : Nat} {A : Option Addr} {n c : Nat} {qs : List (Int × Int)} (h : RowQ w base A n c qs) (hn : 0 < n) : ∃ g, A = some ⟨g, 0, none⟩ ∧ base ≤ g ∧ g < w.heap.size := by
  rcases h.2 with ⟨_, h0⟩ | ⟨g, cap, cur, hv, hb, hh, _⟩
  · omega
  · injection hv with e _ _
    exact ⟨g, e, hb, (Array.getElem?_eq_some_iff.1 hh).1⟩
theorem info_ratio : (Try.prog.info? 48).map (fun i => (i.zero, i.size, i.bytes)) = some (some (.agg #[.int .i64 0, .int .i64 0]), 2, 16) := by kernel_rfl
/-- 'append(out, y)' onto such a row. -/
theorem wpList_appendQ {w : World} {ops : Array Oper} {rest : List Oper} {o : Oper} {a : Act} {Q : Exit → Act → World → Prop} (hgd : o.guard = none) (s x : Operand)
    (ho : o.op = .call { callee := .builtin .append, args := #[s, x], argTypes := #[91, 91] })
    (base : Nat) (A : Option Addr) (n c : Nat) (qs : List (Int × Int)) (hs : a.eval s = .slice A n c) (hown : RowQ w base A n c qs)
    (g cx : Nat) (y z : Int) (hx : a.eval x = .slice (some ⟨g, 0, none⟩) 1 cx) (hy : w.cell? ⟨g, 0, none⟩ = some (.int .i64 y)) (hz : w.cell? ⟨g, 1, none⟩ = some (.int .i64 z)) (hlen : n ≤ 1000000) (hbase : base ≤ w.heap.size)
    (h : ∀ (g' c' : Nat) (w' : World), RowQ w' base (some ⟨g', 0, none⟩) (n + 1) c' (qs ++ [(y, z)]) → Below base w w' → w.grownBy w' (Value.slice A n c).ownBlock → wpList Try.prog ops Q rest (a.put o.dst (.slice (some ⟨g', 0, none⟩) (n + 1) c')) w') :
    wpList Try.prog ops Q (o :: rest) a w := by
  obtain ⟨i0, hi, hz0, hz1, hz2⟩ := info_parts info_ratio
  refine wpList_append_own (P := Try.prog) w hgd s x 91 ho base 48 i0 (.agg #[.int .i64 0, .int .i64 0]) 2 16 Try.underlying91 hi hz0 hz1 hz2 rfl (by decide) (.slice A n c) n _ hs hown ⟨g, 0, none⟩ 1 cx [.int .i64 y, .int .i64 z] hx rfl ?_ ?_ (by unfold maxLen; omega) (by omega) hbase ?_
  · intro j u hu
    match j with
    | 0 => simp at hu; subst hu; rw [Addr.add_lit]; exact hy
    | 1 => simp at hu; subst hu; rw [Addr.add_lit]; exact hz
    | j + 2 => simp at hu
  · intro u hu
    simp at hu
    rcases hu with rfl | rfl <;> rfl
  · intro v' w' hown' hg _
    obtain ⟨g', c', rfl⟩ : ∃ g' c', v' = .slice (some ⟨g', 0, none⟩) (n + 1) c' := by
      rcases hown'.2 with ⟨_, h0⟩ | ⟨g', c', cur, hv, _⟩
      · omega
      · exact ⟨g', c', hv⟩
    refine h g' c' w' ?_ ?_ hg
    · unfold RowQ
      rw [List.flatMap_append]
      simpa using hown'
    · refine (Below.refl _ _).grown hg hbase (fun k hk => ?_)
      exact (World.ownsRow.lt hown k hk).1
/-- The marks of n ratios. -/
def marksQ (s : Int) (n : Nat) : List (Int × Int) := (List.range n).map fun j : Nat => (s + 2 * (j : Int), s + 2 * (j : Int) + 1)
theorem marksQ_len (s : Int) (n : Nat) : (marksQ s n).length = n := by simp [marksQ]
theorem marksQ_get {s : Int} {n k : Nat} (h : k < n) : (marksQ s n)[k]? = some (s + 2 * (k : Int), s + 2 * (k : Int) + 1) := by simp [marksQ, h]
theorem mix_step {α : Type} {l m : List α} {k : Nat} {x : α} (hl : l.length = m.length) (hx : l[k]? = some x) : (l.take k ++ m.drop k).set k x = l.take (k + 1) ++ m.drop (k + 1) := by
  have hk : k < l.length := (List.getElem?_eq_some_iff.1 hx).1
  apply List.ext_getElem?
  intro i
  by_cases hi : k = i
  · subst hi
    rw [List.getElem?_set_self (by simp; omega), List.getElem?_append_left (by simp; omega), List.getElem?_take_of_lt (by omega), hx]
  · rw [List.getElem?_set_ne hi]
    rcases Nat.lt_or_gt_of_ne hi with h | h
    · rw [List.getElem?_append_right (by simp; omega), List.getElem?_append_right (by simp; omega)]
      simp only [List.length_take, List.getElem?_drop]
      congr 1
      omega
    · rw [List.getElem?_append_left (by simp; omega), List.getElem?_append_left (by simp; omega), List.getElem?_take_of_lt h, List.getElem?_take_of_lt (by omega)]
theorem mix_get {α : Type} {l m : List α} {k : Nat} (hl : l.length = m.length) (hk : k < m.length) : (l.take k ++ m.drop k)[k]? = m[k]? := by
  rw [List.getElem?_append_right (by simp; omega)]
  simp only [List.length_take, List.getElem?_drop]
  congr 1
  omega
end Go.Proofs.Ythpgkngkmmameaa
