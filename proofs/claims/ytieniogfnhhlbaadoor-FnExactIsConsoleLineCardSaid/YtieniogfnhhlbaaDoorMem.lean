/-
  Slices of int64 in a world: what is read ('RI'), what a call owns ('OI': its block lies in lo..hi-1, not frozen), what a step leaves alone ('Kept'). Conditions: none.
-/
import Derived.Test.YtieniogfnhhlbaaDoorBase
import Derived.StillTailTactics
namespace Go.Proofs.YtieniogfnhhlbaaDoor
open Go.RowKit

/-- Blocks outside lo..hi-1 that were there are as they were. -/
structure Kept (lo hi : Nat) (w w' : World) : Prop where
  os : w'.os = w.os
  tape : w'.tape = w.tape
  output : w'.output = w.output
  size : w.heap.size ≤ w'.heap.size
  block : ∀ k, k < w.heap.size → ¬ (lo ≤ k ∧ k < hi) → w'.heap[k]? = w.heap[k]?

theorem Kept.refl (lo hi : Nat) (w : World) : Kept lo hi w w := ⟨rfl, rfl, rfl, Nat.le_refl _, fun _ _ _ => rfl⟩
theorem Kept.trans {lo hi : Nat} {a b c : World} (h : Kept lo hi a b) (k : Kept lo hi b c) : Kept lo hi a c :=
  ⟨k.os.trans h.os, k.tape.trans h.tape, k.output.trans h.output, Nat.le_trans h.size k.size, fun i hi hn => (k.block i (Nat.lt_of_lt_of_le hi h.size) hn).trans (h.block i hi hn)⟩
theorem Kept.widen {lo hi lo' hi' : Nat} {a b : World} (h : Kept lo hi a b) (h1 : lo' ≤ lo) (h2 : hi ≤ hi') : Kept lo' hi' a b :=
  ⟨h.os, h.tape, h.output, h.size, fun k hk hn => h.block k hk (fun ⟨p, q⟩ => hn ⟨by omega, by omega⟩)⟩
theorem Kept.drew {lo hi : Nat} {a b : World} (h : Kept lo hi a b) : Kept lo hi a b.drew := ⟨h.os, h.tape, h.output, h.size, h.block⟩
theorem Kept.drewN {lo hi : Nat} {a b : World} (h : Kept lo hi a b) (n : Nat) : Kept lo hi a (b.drewN n) := ⟨h.os, h.tape, h.output, h.size, h.block⟩
theorem Kept.alloc {lo hi : Nat} {a b : World} (h : Kept lo hi a b) (o : Obj) : Kept lo hi a (b.alloc o) :=
  ⟨h.os, h.tape, h.output, Nat.le_trans h.size (by simp), fun k hk hn => (Below.heap_alloc b o k (Nat.lt_of_lt_of_le hk h.size)).trans (h.block k hk hn)⟩
theorem Kept.setCell {lo hi : Nat} {a b : World} (h : Kept lo hi a b) {p : Addr} (hp : lo ≤ p.block ∧ p.block < hi ∨ a.heap.size ≤ p.block) (u : Value) : Kept lo hi a (b.setCell p u) :=
  ⟨h.os, h.tape, h.output, by simpa [World.setCell] using h.size, fun k hk hn => (Below.heap_setCell b p u k (by
    rintro rfl
    rcases hp with hp | hp
    · exact hn hp
    · omega)).trans (h.block k hk hn)⟩
theorem Kept.of_below {w w' : World} (h : Below w.heap.size w w') (lo hi : Nat) : Kept lo hi w w' := ⟨h.os, h.tape, h.output, h.size, fun k hk _ => h.block k hk⟩
theorem Kept.below {lo hi B : Nat} {w w' : World} (h : Kept lo hi w w') (h1 : B ≤ lo) (h2 : B ≤ w.heap.size) : Below B w w' :=
  ⟨h.os, h.tape, h.output, h.size, fun k hk => h.block k (by omega) (fun ⟨p, _⟩ => by omega)⟩
theorem Kept.below_all {w w' : World} (h : Kept 0 0 w w') : Below w.heap.size w w' := ⟨h.os, h.tape, h.output, h.size, fun k hk => h.block k hk (fun ⟨_, q⟩ => by omega)⟩

theorem below_drewN {B : Nat} {a w : World} (h : Below B a w) (n : Nat) : Below B a (w.drewN n) := ⟨h.os, h.tape, h.output, h.size, h.block⟩
theorem below_step {B : Nat} {a w w' : World} (h : Below B a w) (k : Below w.heap.size w w') (hB : B ≤ w.heap.size) : Below B a w' := h.trans (k.mono hB)

section
variable {w w' : World} {A : Option Addr} {zs : List Int} {lo hi : Nat}
/-- What is read: empty, or the numbers lie at an address below the heap's end. -/
def RI (w : World) (A : Option Addr) (zs : List Int) : Prop :=
  zs = [] ∨ ∃ b off, A = some ⟨b, off, none⟩ ∧ b < w.heap.size ∧ ∀ (j : Nat) (x : Int), zs[j]? = some x → w.cell? ⟨b, off + j, none⟩ = some (.int .i64 x)
/-- What a call owns: the block lies in lo..hi-1 and bears no mark. -/
def OI (w : World) (lo hi : Nat) (A : Option Addr) (zs : List Int) : Prop :=
  zs = [] ∨ ∃ b off, A = some ⟨b, off, none⟩ ∧ lo ≤ b ∧ b < hi ∧ b < w.heap.size ∧ (∀ (j : Nat) (x : Int), zs[j]? = some x → w.cell? ⟨b, off + j, none⟩ = some (.int .i64 x)) ∧ ∀ j, w.frozen? ⟨b, j, none⟩ = false
theorem OI.ri (h : OI w lo hi A zs) : RI w A zs := by
  rcases h with h | ⟨b, off, h1, _, _, h2, h3, _⟩
  · exact .inl h
  · exact .inr ⟨b, off, h1, h2, h3⟩
theorem RI.split (h : RI w A zs) : zs.length ≤ 0 ∨ ∃ b off, A = some ⟨b, off, none⟩ ∧ b < w.heap.size ∧ Hid (∀ (j : Nat) (x : Int), zs[j]? = some x → w.cell? ⟨b, off + j, none⟩ = some (.int .i64 x)) := by
  rcases h with h | h
  · exact .inl (by simp [h])
  · exact .inr h
theorem RI.nil (w : World) (A : Option Addr) : RI w A [] := .inl rfl
theorem OI.nil (w : World) (lo hi : Nat) (A : Option Addr) : OI w lo hi A [] := .inl rfl
theorem RI.below (h : RI w A zs) (hb : Below w.heap.size w w') : RI w' A zs := by
  rcases h with h | ⟨b, off, h1, h2, h3⟩
  · exact .inl h
  · exact .inr ⟨b, off, h1, Nat.lt_of_lt_of_le h2 hb.size, fun j x hx => (hb.cell (p := ⟨b, off + j, none⟩) h2).trans (h3 j x hx)⟩
theorem RI.drewN (h : RI w A zs) (n : Nat) : RI (w.drewN n) A zs := h
theorem OI.below (h : OI w lo hi A zs) (hb : Below w.heap.size w w') : OI w' lo hi A zs := by
  rcases h with h | ⟨b, off, h1, l1, l2, h2, h3, h4⟩
  · exact .inl h
  · exact .inr ⟨b, off, h1, l1, l2, Nat.lt_of_lt_of_le h2 hb.size, fun j x hx => (hb.cell (p := ⟨b, off + j, none⟩) h2).trans (h3 j x hx), fun j => (hb.frozen (p := ⟨b, j, none⟩) h2).trans (h4 j)⟩
theorem OI.kept {l h' : Nat} (h : OI w lo hi A zs) (hk : Kept l h' w w') (hd : h' ≤ lo ∨ hi ≤ l) : OI w' lo hi A zs := by
  rcases h with h | ⟨b, off, h1, l1, l2, h2, h3, h4⟩
  · exact .inl h
  · have hb : w'.heap[b]? = w.heap[b]? := hk.block b h2 (by omega)
    exact .inr ⟨b, off, h1, l1, l2, Nat.lt_of_lt_of_le h2 hk.size, fun j x hx => (World.cell?_of_block (a := ⟨b, off + j, none⟩) hb).trans (h3 j x hx), fun j => (World.frozen?_of_block (a := ⟨b, j, none⟩) hb).trans (h4 j)⟩
theorem RI.kept {l h' : Nat} (h : RI w A zs) (hk : Kept l h' w w') (hd : w.heap.size ≤ l) : RI w' A zs := by
  rcases h with h | ⟨b, off, h1, h2, h3⟩
  · exact .inl h
  · have hb : w'.heap[b]? = w.heap[b]? := hk.block b h2 (by omega)
    exact .inr ⟨b, off, h1, Nat.lt_of_lt_of_le h2 hk.size, fun j x hx => (World.cell?_of_block (a := ⟨b, off + j, none⟩) hb).trans (h3 j x hx)⟩
theorem OI.widen {lo' hi' : Nat} (h : OI w lo hi A zs) (h1 : lo' ≤ lo) (h2 : hi ≤ hi') : OI w lo' hi' A zs := by
  rcases h with h | ⟨b, off, e, l1, l2, r⟩
  · exact .inl h
  · exact .inr ⟨b, off, e, by omega, by omega, r⟩
/-- The cell in range: it is there, and bears no mark. -/
theorem OI.at_ {b off : Nat} (h : OI w lo hi (some ⟨b, off, none⟩) zs) {j : Nat} (hj : j < zs.length) : (∃ y, w.cell? ⟨b, off + j, none⟩ = some (.int .i64 y)) ∧ w.frozen? ⟨b, off + j, none⟩ = false := by
  rcases h with h | ⟨b', off', e, l1, l2, h2, h3, h4⟩
  · subst h; simp at hj
  · injection e with e; injection e with e1 e2; subst e1 e2
    exact ⟨⟨_, h3 j _ (List.getElem?_eq_getElem hj)⟩, h4 _⟩
theorem OI.lt {b off : Nat} (h : OI w lo hi (some ⟨b, off, none⟩) zs) (hj : 0 < zs.length) : lo ≤ b ∧ b < hi ∧ b < w.heap.size := by
  rcases h with h | ⟨b', off', e, l1, l2, h2, _⟩
  · subst h; simp at hj
  · injection e with e; injection e with e1 e2; subst e1 e2
    exact ⟨l1, l2, h2⟩
/-- A store in range. -/
theorem OI.set {b off : Nat} (h : OI w lo hi (some ⟨b, off, none⟩) zs) {j : Nat} (hj : j < zs.length) (x : Int) : OI (w.setCell ⟨b, off + j, none⟩ (.int .i64 x)) lo hi (some ⟨b, off, none⟩) (zs.set j x) := by
  rcases h with h | ⟨b', off', e, l1, l2, h2, h3, h4⟩
  · subst h; simp at hj
  · injection e with e; injection e with e1 e2; subst e1 e2
    refine .inr ⟨b, off, rfl, l1, l2, by simpa [World.setCell] using h2, fun i y hy => ?_, fun i => by simpa using h4 i⟩
    by_cases hij : i = j
    · subst hij
      rw [List.getElem?_set_self hj] at hy
      injection hy with hy
      subst hy
      exact World.cell?_setCell_same w _ _ (h3 i zs[i] (List.getElem?_eq_getElem hj))
    · rw [List.getElem?_set_ne (by omega)] at hy
      rw [World.cell?_setCell_other _ _ _ _ (fun e => by injection e; omega)]
      exact h3 i y hy
end
theorem info_int : (Tryd.prog.info? 2).map (fun i => (i.zero, i.size, i.bytes)) = some (some (.int .i64 0), 1, 8) := by kernel_rfl
/-- An owned row, as 'OI'. -/
theorem OI.of_row {w : World} {base : Nat} {A : Option Addr} {n c : Nat} {zs : List Int} (h : w.ownsRow base 2 1 (.slice A n c) n (zs.map (.int .i64))) : OI w base w.heap.size A zs := by
  rcases h.2 with ⟨he, h0⟩ | ⟨g, cap, cur, hv, hg, hh, hn, hc, hs, ht⟩
  · subst h0
    have := h.1
    simp at this
    exact .inl this
  · injection hv with hA _ _
    subst hA
    have hlt : g < w.heap.size := (Array.getElem?_eq_some_iff.1 hh).1
    refine .inr ⟨g, 0, rfl, hg, hlt, hlt, fun j x hx => ?_, fun j => by simp [World.frozen?, hh]⟩
    have h1 : (zs.map (Value.int .i64))[j]? = some (.int .i64 x) := by simp [hx]
    have := h.cells (g := g) rfl j _ h1
    rw [Nat.zero_add]
    rwa [Addr.add_lit, Nat.zero_add] at this
/-- A region that draws its order, whose head only reads: the head in the order of the text, then the tail. -/
theorem region_tail {P : Program} {id : Nat} {Q : Exit → Act → World → Prop} {a : Act} {w : World} {l : List Oper} (n : Nat) (hm : P.follows .mixedOrders = true) (hB : Region.lexTailB .any l.toArray n = true)
    (h : wpStill P l.toArray w.drew (fun a' => wpList P l.toArray Q (l.drop n) a' w.drew) (l.take n) a) : (Code.region id l.toArray true).wp P Q a w := wp_region_still_tail n hm hB h
/-- A row of int64 that the call owns and may append to. -/
def Row (w : World) (base : Nat) (A : Option Addr) (n c : Nat) (zs : List Int) : Prop := w.ownsRow base 2 1 (.slice A n c) n (zs.map (.int .i64))
theorem Row.oi {w : World} {base : Nat} {A : Option Addr} {n c : Nat} {zs : List Int} (h : Row w base A n c zs) : OI w base w.heap.size A zs := OI.of_row h
theorem Row.length {w : World} {base : Nat} {A : Option Addr} {n c : Nat} {zs : List Int} (h : Row w base A n c zs) : zs.length = n := by simpa using h.1
theorem Row.empty (w : World) {base : Nat} (hb : base ≤ w.heap.size) : Row (w.alloc (.cells #[] 2)) base (some ⟨w.heap.size, 0, none⟩) 0 0 [] :=
  World.ownsRow_made w #[] 0 hb (Nat.zero_le _) rfl
theorem Row.nil (w : World) (base : Nat) : Row w base none 0 0 [] := World.ownsRow_nil w base _ _
theorem Row.alloc {w : World} {base : Nat} {A : Option Addr} {n c : Nat} {zs : List Int} (h : Row w base A n c zs) (o : Obj) : Row (w.alloc o) base A n c zs := World.ownsRow.alloc h o
theorem Row.drewN {w : World} {base : Nat} {A : Option Addr} {n c : Nat} {zs : List Int} (h : Row w base A n c zs) (k : Nat) : Row (w.drewN k) base A n c zs := h
theorem Row.below {w w' : World} {base : Nat} {A : Option Addr} {n c : Nat} {zs : List Int} (h : Row w base A n c zs) (hb : Below w.heap.size w w') : Row w' base A n c zs := by
  refine World.ownsRow.kept (row := none) h ⟨hb.os, hb.tape, hb.output, hb.size, fun k hk _ => hb.block k hk⟩ ?_
  cases hv : (Value.slice A n c).ownBlock <;> simp
/-- 'append(out, y)' onto such a row. -/
theorem wpList_append1 {w : World} {ops : Array Oper} {rest : List Oper} {o : Oper} {a : Act} {Q : Exit → Act → World → Prop} (hgd : o.guard = none) (s x : Operand)
    (ho : o.op = .call { callee := .builtin .append, args := #[s, x], argTypes := #[24, 24] })
    (base : Nat) (A : Option Addr) (n c : Nat) (zs : List Int) (hs : a.eval s = .slice A n c) (hown : Row w base A n c zs)
    (g cx : Nat) (y : Int) (hx : a.eval x = .slice (some ⟨g, 0, none⟩) 1 cx) (hy : w.cell? ⟨g, 0, none⟩ = some (.int .i64 y)) (hlen : n ≤ 10000000) (hbase : base ≤ w.heap.size)
    (h : ∀ (g' c' : Nat) (w' : World), Row w' base (some ⟨g', 0, none⟩) (n + 1) c' (zs ++ [y]) → Below base w w' → w.grownBy w' (Value.slice A n c).ownBlock → wpList Tryd.prog ops Q rest (a.put o.dst (.slice (some ⟨g', 0, none⟩) (n + 1) c')) w') :
    wpList Tryd.prog ops Q (o :: rest) a w := by
  obtain ⟨i0, hi, hz0, hz1, hz2⟩ := info_parts info_int
  refine wpList_append_own (P := Tryd.prog) w hgd s x 24 ho base 2 i0 (.int .i64 0) 1 8 Tryd.underlying24 hi hz0 hz1 hz2 rfl (by decide) (.slice A n c) n _ hs hown ⟨g, 0, none⟩ 1 cx [.int .i64 y] hx rfl ?_ ?_ (by unfold maxLen; omega) (by omega) hbase ?_
  · intro j u hu
    cases j with
    | zero => simp at hu; subst hu; rw [Addr.add_lit]; exact hy
    | succ j => simp at hu
  · intro u hu
    simp at hu
    subst hu
    rfl
  · intro v' w' hown' hg _
    obtain ⟨g', c', rfl⟩ : ∃ g' c', v' = .slice (some ⟨g', 0, none⟩) (n + 1) c' := by
      rcases hown'.2 with ⟨_, h0⟩ | ⟨g', c', cur, hv, _⟩
      · omega
      · exact ⟨g', c', hv⟩
    refine h g' c' w' ?_ ?_ hg
    · unfold Row
      simpa using hown'
    · refine (Below.refl _ _).grown hg hbase (fun k hk => ?_)
      exact (World.ownsRow.lt hown k hk).1
/-- The same for a region that draws its order. -/
theorem step_append1 {w : World} {ops : Array Oper} {o : Oper} {a : Act} {K : Act → World → Prop} {Q : Exit → Act → World → Prop} {E : Prop} (hgd : o.guard = none) (s x : Operand)
    (ho : o.op = .call { callee := .builtin .append, args := #[s, x], argTypes := #[24, 24] })
    (base : Nat) (A : Option Addr) (n c : Nat) (zs : List Int) (hs : a.eval s = .slice A n c) (hown : Row w base A n c zs)
    (g cx : Nat) (y : Int) (hx : a.eval x = .slice (some ⟨g, 0, none⟩) 1 cx) (hy : w.cell? ⟨g, 0, none⟩ = some (.int .i64 y)) (hlen : n ≤ 10000000) (hbase : base ≤ w.heap.size)
    (h : ∀ (g' c' : Nat) (w' : World), Row w' base (some ⟨g', 0, none⟩) (n + 1) c' (zs ++ [y]) → Below base w w' → K (a.put o.dst (.slice (some ⟨g', 0, none⟩) (n + 1) c')) w') :
    if Region.wanted o (yielded ops a.tmps) = true then Oper.wp Tryd.prog o a w K Q else E := by
  have hw : Region.wanted o (yielded ops a.tmps) = true := by simp [Region.wanted, hgd]
  rw [if_pos hw]
  obtain ⟨i0, hi, hz0, hz1, hz2⟩ := info_parts info_int
  refine wp_append_own (P := Tryd.prog) w s x 24 ho base 2 i0 (.int .i64 0) 1 8 Tryd.underlying24 hi hz0 hz1 hz2 rfl (by decide) (.slice A n c) n _ hs hown ⟨g, 0, none⟩ 1 cx [.int .i64 y] hx rfl ?_ ?_ (by unfold maxLen; omega) (by omega) hbase ?_
  · intro j u hu
    cases j with
    | zero => simp at hu; subst hu; rw [Addr.add_lit]; exact hy
    | succ j => simp at hu
  · intro u hu
    simp at hu
    subst hu
    rfl
  · intro v' w' hown' hg _
    obtain ⟨g', c', rfl⟩ : ∃ g' c', v' = .slice (some ⟨g', 0, none⟩) (n + 1) c' := by
      rcases hown'.2 with ⟨_, h0⟩ | ⟨g', c', cur, hv, _⟩
      · omega
      · exact ⟨g', c', hv⟩
    refine h g' c' w' ?_ ?_
    · unfold Row
      simpa using hown'
    · refine (Below.refl _ _).grown hg hbase (fun k hk => ?_)
      exact (World.ownsRow.lt hown k hk).1
end Go.Proofs.YtieniogfnhhlbaaDoor
