/-
  What the library's own variables hold (laid by the statement), and values of one cell each in a slice. Conditions: none.
-/
import Derived.Test.YtieniogfnhhlbaaDoorMem
import Derived.Test.YtieniogfnhhlbaaDoorShelf
namespace Go.Proofs.YtieniogfnhhlbaaDoor
open Go.RowKit
set_option linter.unusedVariables false

/-- The library's variables that the walks lean on. -/
structure LibOk (w : World) : Prop where
  tab : Lib.TabIs Tryd.prog w "internal/strconv.uint64pow10" .u64 Lib.pow10Tab
  es : ∃ t a, w.cell? ⟨3, 0, none⟩ = some (.iface t (.pointer (some a)))
  er : ∃ t a, w.cell? ⟨4, 0, none⟩ = some (.iface t (.pointer (some a)))
  ml : ∃ m, w.cell? ⟨0, 0, none⟩ = some (.int .i64 m)
theorem lt_of_cell {w : World} {g o : Nat} {v : Value} (h : w.cell? ⟨g, o, none⟩ = some v) : g < w.heap.size := by
  rcases Nat.lt_or_ge g w.heap.size with h' | h'
  · exact h'
  · simp [World.cell?, Array.getElem?_eq_none h'] at h
theorem LibOk.below {w w' : World} (h : LibOk w) (hb : Below w.heap.size w w') : LibOk w' := by
  obtain ⟨h1, ⟨t2, a2, h2⟩, ⟨t3, a3, h3⟩, ⟨m, h4⟩⟩ := h
  have hg : Tryd.prog.globalNamed "internal/strconv.uint64pow10" = some 5 := by kernel_rfl
  refine ⟨?_, ⟨t2, a2, (hb.cell (p := ⟨_, 0, none⟩) (lt_of_cell h2)).trans h2⟩, ⟨t3, a3, (hb.cell (p := ⟨_, 0, none⟩) (lt_of_cell h3)).trans h3⟩, ⟨m, (hb.cell (p := ⟨_, 0, none⟩) (lt_of_cell h4)).trans h4⟩⟩
  have hl : 5 < w.heap.size := lt_of_cell (h1.cell hg 0 (by decide))
  unfold Lib.TabIs World.var? at h1 ⊢
  rw [hg] at h1 ⊢
  simp only [Option.bind_some] at h1 ⊢
  rw [hb.block _ hl]; exact h1
theorem LibOk.drewN {w : World} (h : LibOk w) (n : Nat) : LibOk (w.drewN n) := h.below (below_drewN (Below.refl _ _) n)
theorem LibOk.alloc {w : World} (h : LibOk w) (o : Obj) : LibOk (w.alloc o) := h.below ((Below.refl _ _).alloc (Nat.le_refl _) o)

section
variable {w w' : World} {A : Option Addr} {vs : List Value} {lo hi : Nat}
/-- What is read, cell for cell: empty, or the values lie at an address below the heap's end. -/
def RV (w : World) (A : Option Addr) (vs : List Value) : Prop :=
  vs = [] ∨ ∃ b off, A = some ⟨b, off, none⟩ ∧ b < w.heap.size ∧ ∀ (j : Nat) (x : Value), vs[j]? = some x → w.cell? ⟨b, off + j, none⟩ = some x
theorem RV.split (h : RV w A vs) : vs.length ≤ 0 ∨ ∃ b off, A = some ⟨b, off, none⟩ ∧ b < w.heap.size ∧ Hid (∀ (j : Nat) (x : Value), vs[j]? = some x → w.cell? ⟨b, off + j, none⟩ = some x) := by
  rcases h with h | h
  · exact .inl (by simp [h])
  · exact .inr h
theorem RV.nil (w : World) (A : Option Addr) : RV w A [] := .inl rfl
theorem RV.below (h : RV w A vs) (hb : Below w.heap.size w w') : RV w' A vs := by
  rcases h with h | ⟨b, off, h1, h2, h3⟩
  · exact .inl h
  · exact .inr ⟨b, off, h1, Nat.lt_of_lt_of_le h2 hb.size, fun j x hx => (hb.cell (p := ⟨b, off + j, none⟩) h2).trans (h3 j x hx)⟩
theorem RV.drewN (h : RV w A vs) (n : Nat) : RV (w.drewN n) A vs := h
theorem RV.kept {l h' : Nat} (h : RV w A vs) (hk : Kept l h' w w') (hd : w.heap.size ≤ l) : RV w' A vs := by
  rcases h with h | ⟨b, off, h1, h2, h3⟩
  · exact .inl h
  · have hb : w'.heap[b]? = w.heap[b]? := hk.block b h2 (by omega)
    exact .inr ⟨b, off, h1, Nat.lt_of_lt_of_le h2 hk.size, fun j x hx => (World.cell?_of_block (a := ⟨b, off + j, none⟩) hb).trans (h3 j x hx)⟩
/-- A block just made. -/
theorem RV.new (w : World) (vs : List Value) (t : TypeId) : RV (w.alloc (.cells vs.toArray t)) (some ⟨w.heap.size, 0, none⟩) vs := by
  refine .inr ⟨w.heap.size, 0, rfl, by simp, fun j x hx => ?_⟩
  rw [Nat.zero_add]
  have hb := heap_alloc_new w (.cells vs.toArray t)
  unfold World.cell?
  rw [hb]
  simpa using hx
/-- 's[1:]' of a slice whose capacity is its length or more. -/
theorem RV.drop1 {v : Value} {cap : Nat} (h : RV w A (v :: vs)) (hc : vs.length + 1 ≤ cap) : RV w (if cap = 1 then A else A.map (·.add 1)) vs := by
  cases vs with
  | nil => exact .inl rfl
  | cons x r =>
    rcases h with h | ⟨b, off, h1, h2, h3⟩
    · cases h
    · rw [if_neg (by simp at hc; omega)]
      subst h1
      refine .inr ⟨b, off + 1, by simp [Addr.add], h2, fun j y hy => ?_⟩
      rw [Nat.add_assoc, Nat.add_comm 1 j]
      exact h3 (j + 1) y (by simpa using hy)
end
/-- A row of one-cell values of type e that the call owns and may append to. -/
def RowV (e : TypeId) (w : World) (base : Nat) (A : Option Addr) (n c : Nat) (vs : List Value) : Prop := w.ownsRow base e 1 (.slice A n c) n vs
theorem RowV.rv {e : TypeId} {w : World} {base : Nat} {A : Option Addr} {n c : Nat} {vs : List Value} (h : RowV e w base A n c vs) : RV w A vs := by
  rcases h.2 with ⟨he, h0⟩ | ⟨g, cap, cur, hv, hg, hh, hn, hc, hs, ht⟩
  · have := h.1
    rw [h0] at this
    exact .inl (by simpa using this)
  · injection hv with hA _ _
    subst hA
    refine .inr ⟨g, 0, rfl, (Array.getElem?_eq_some_iff.1 hh).1, fun j x hx => ?_⟩
    have := h.cells (g := g) rfl j _ hx
    rw [Nat.zero_add]
    rwa [Addr.add_lit, Nat.zero_add] at this
theorem RowV.length {e : TypeId} {w : World} {base : Nat} {A : Option Addr} {n c : Nat} {vs : List Value} (h : RowV e w base A n c vs) : vs.length = n := by simpa using h.1
theorem RowV.empty (e : TypeId) (w : World) {base : Nat} (hb : base ≤ w.heap.size) : RowV e (w.alloc (.cells #[] e)) base (some ⟨w.heap.size, 0, none⟩) 0 0 [] :=
  World.ownsRow_made w #[] 0 hb (Nat.zero_le _) rfl
theorem RowV.nil (e : TypeId) (w : World) (base : Nat) : RowV e w base none 0 0 [] := World.ownsRow_nil w base _ _
theorem RowV.alloc {e : TypeId} {w : World} {base : Nat} {A : Option Addr} {n c : Nat} {vs : List Value} (h : RowV e w base A n c vs) (o : Obj) : RowV e (w.alloc o) base A n c vs := World.ownsRow.alloc h o
theorem RowV.drewN {e : TypeId} {w : World} {base : Nat} {A : Option Addr} {n c : Nat} {vs : List Value} (h : RowV e w base A n c vs) (k : Nat) : RowV e (w.drewN k) base A n c vs := h
theorem RowV.below {e : TypeId} {w w' : World} {base : Nat} {A : Option Addr} {n c : Nat} {vs : List Value} (h : RowV e w base A n c vs) (hb : Below w.heap.size w w') : RowV e w' base A n c vs := by
  refine World.ownsRow.kept (row := none) h ⟨hb.os, hb.tape, hb.output, hb.size, fun k hk _ => hb.block k hk⟩ ?_
  cases hv : (Value.slice A n c).ownBlock <;> simp
theorem info_string : (Tryd.prog.info? 9).map (fun i => (i.zero, i.size, i.bytes)) = some (some (.string ByteArray.empty), 1, 16) := by kernel_rfl
/-- 'append(out, y)' of a string onto such a row. -/
theorem wpList_appendS {w : World} {ops : Array Oper} {rest : List Oper} {o : Oper} {a : Act} {Q : Exit → Act → World → Prop} (hgd : o.guard = none) (s x : Operand)
    (ho : o.op = .call { callee := .builtin .append, args := #[s, x], argTypes := #[23, 23] })
    (base : Nat) (A : Option Addr) (n c : Nat) (vs : List Value) (hs : a.eval s = .slice A n c) (hown : RowV 9 w base A n c vs)
    (g cx : Nat) (y : ByteArray) (hx : a.eval x = .slice (some ⟨g, 0, none⟩) 1 cx) (hy : w.cell? ⟨g, 0, none⟩ = some (.string y)) (hlen : n ≤ 10000000) (hbase : base ≤ w.heap.size)
    (h : ∀ (g' c' : Nat) (w' : World), RowV 9 w' base (some ⟨g', 0, none⟩) (n + 1) c' (vs ++ [.string y]) → Below base w w' → w.grownBy w' (Value.slice A n c).ownBlock → wpList Tryd.prog ops Q rest (a.put o.dst (.slice (some ⟨g', 0, none⟩) (n + 1) c')) w') :
    wpList Tryd.prog ops Q (o :: rest) a w := by
  obtain ⟨i0, hi, hz0, hz1, hz2⟩ := info_parts info_string
  refine wpList_append_own (P := Tryd.prog) w hgd s x 23 ho base 9 i0 (.string ByteArray.empty) 1 16 Tryd.underlying23 hi hz0 hz1 hz2 rfl (by decide) (.slice A n c) n _ hs hown ⟨g, 0, none⟩ 1 cx [.string y] hx rfl ?_ ?_ (by unfold maxLen; omega) (by omega) hbase ?_
  · intro j u hu
    cases j with
    | zero => simp at hu; subst hu; rw [Addr.add_lit]; exact hy
    | succ j => simp at hu
  · intro u hu
    simp at hu
    subst hu
    rfl
  · intro v' w' hown' hg _
    obtain ⟨g', c', rfl⟩ : ∃ g' c', v' = .slice (some ⟨g', 0, none⟩) (n + 1) c' := by
      rcases hown'.2 with ⟨_, h0⟩ | ⟨g', c', cur, hv, _⟩
      · omega
      · exact ⟨g', c', hv⟩
    refine h g' c' w' ?_ ?_ hg
    · unfold RowV
      simpa using hown'
    · refine (Below.refl _ _).grown hg hbase (fun k hk => ?_)
      exact (World.ownsRow.lt hown k hk).1
end Go.Proofs.YtieniogfnhhlbaaDoor
