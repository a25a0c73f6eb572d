/-
  Rows of []int that a call owns and may append to. Conditions: none.
-/
import Derived.Test.YthpgkngkmmameaaMem
namespace Go.Proofs.Ythpgkngkmmameaa
open Go.RowKit
set_option linter.unusedVariables false
theorem info_intI : (Try.prog.info? 3).map (fun i => (i.zero, i.size, i.bytes)) = some (some (.int .i64 0), 1, 8) := by kernel_rfl
/-- An owned row, as 'OI'. -/
theorem OI.of_rowI {w : World} {base : Nat} {A : Option Addr} {n c : Nat} {zs : List Int} (h : w.ownsRow base 3 1 (.slice A n c) n (zs.map (.int .i64))) : OI w base w.heap.size A zs := by
  rcases h.2 with ⟨he, h0⟩ | ⟨g, cap, cur, hv, hg, hh, hn, hc, hs, ht⟩
  · subst h0
    have := h.1
    simp at this
    exact .inl this
  · injection hv with hA _ _
    subst hA
    have hlt : g < w.heap.size := (Array.getElem?_eq_some_iff.1 hh).1
    refine .inr ⟨g, 0, rfl, hg, hlt, hlt, fun j x hx => ?_, fun j => by simp [World.frozen?, hh]⟩
    have h1 : (zs.map (Value.int .i64))[j]? = some (.int .i64 x) := by simp [hx]
    have := h.cells (g := g) rfl j _ h1
    rw [Nat.zero_add]
    rwa [Addr.add_lit, Nat.zero_add] at this
/-- A row of int64 that the call owns and may append to. -/
def RowI (w : World) (base : Nat) (A : Option Addr) (n c : Nat) (zs : List Int) : Prop := w.ownsRow base 3 1 (.slice A n c) n (zs.map (.int .i64))
theorem RowI.oi {w : World} {base : Nat} {A : Option Addr} {n c : Nat} {zs : List Int} (h : RowI w base A n c zs) : OI w base w.heap.size A zs := OI.of_rowI h
theorem RowI.length {w : World} {base : Nat} {A : Option Addr} {n c : Nat} {zs : List Int} (h : RowI w base A n c zs) : zs.length = n := by simpa using h.1
theorem RowI.empty (w : World) {base : Nat} (hb : base ≤ w.heap.size) : RowI (w.alloc (.cells #[] 3)) base (some ⟨w.heap.size, 0, none⟩) 0 0 [] :=
  World.ownsRow_made w #[] 0 hb (Nat.zero_le _) rfl
theorem RowI.nil (w : World) (base : Nat) : RowI w base none 0 0 [] := World.ownsRow_nil w base _ _
theorem RowI.alloc {w : World} {base : Nat} {A : Option Addr} {n c : Nat} {zs : List Int} (h : RowI w base A n c zs) (o : Obj) : RowI (w.alloc o) base A n c zs := World.ownsRow.alloc h o
theorem RowI.drewN {w : World} {base : Nat} {A : Option Addr} {n c : Nat} {zs : List Int} (h : RowI w base A n c zs) (k : Nat) : RowI (w.drewN k) base A n c zs := h
theorem RowI.below {w w' : World} {base : Nat} {A : Option Addr} {n c : Nat} {zs : List Int} (h : RowI w base A n c zs) (hb : Below w.heap.size w w') : RowI w' base A n c zs := by
  refine World.ownsRow.kept (row := none) h ⟨hb.os, hb.tape, hb.output, hb.size, fun k hk _ => hb.block k hk⟩ ?_
  cases hv : (Value.slice A n c).ownBlock <;> simp
/-- 'append(out, y)' onto such a row. -/
theorem wpList_append1I {w : World} {ops : Array Oper} {rest : List Oper} {o : Oper} {a : Act} {Q : Exit → Act → World → Prop} (hgd : o.guard = none) (s x : Operand)
    (ho : o.op = .call { callee := .builtin .append, args := #[s, x], argTypes := #[114, 114] })
    (base : Nat) (A : Option Addr) (n c : Nat) (zs : List Int) (hs : a.eval s = .slice A n c) (hown : RowI w base A n c zs)
    (g cx : Nat) (y : Int) (hx : a.eval x = .slice (some ⟨g, 0, none⟩) 1 cx) (hy : w.cell? ⟨g, 0, none⟩ = some (.int .i64 y)) (hlen : n ≤ 10000000) (hbase : base ≤ w.heap.size)
    (h : ∀ (g' c' : Nat) (w' : World), RowI w' base (some ⟨g', 0, none⟩) (n + 1) c' (zs ++ [y]) → Below base w w' → w.grownBy w' (Value.slice A n c).ownBlock → wpList Try.prog ops Q rest (a.put o.dst (.slice (some ⟨g', 0, none⟩) (n + 1) c')) w') :
    wpList Try.prog ops Q (o :: rest) a w := by
  obtain ⟨i0, hi, hz0, hz1, hz2⟩ := info_parts info_intI
  refine wpList_append_own (P := Try.prog) w hgd s x 114 ho base 3 i0 (.int .i64 0) 1 8 Try.underlying114 hi hz0 hz1 hz2 rfl (by decide) (.slice A n c) n _ hs hown ⟨g, 0, none⟩ 1 cx [.int .i64 y] hx rfl ?_ ?_ (by unfold maxLen; omega) (by omega) hbase ?_
  · intro j u hu
    cases j with
    | zero => simp at hu; subst hu; rw [Addr.add_lit]; exact hy
    | succ j => simp at hu
  · intro u hu
    simp at hu
    subst hu
    rfl
  · intro v' w' hown' hg _
    obtain ⟨g', c', rfl⟩ : ∃ g' c', v' = .slice (some ⟨g', 0, none⟩) (n + 1) c' := by
      rcases hown'.2 with ⟨_, h0⟩ | ⟨g', c', cur, hv, _⟩
      · omega
      · exact ⟨g', c', hv⟩
    refine h g' c' w' ?_ ?_ hg
    · unfold RowI
      simpa using hown'
    · refine (Below.refl _ _).grown hg hbase (fun k hk => ?_)
      exact (World.ownsRow.lt hown k hk).1
theorem RowI.keptS {w w' : World} {base g : Nat} {A : Option Addr} {n c : Nat} {zs : List Int} (h : RowI w base A n c zs) (hk : Kept g (g + 1) w w') (hg : g < base) : RowI w' base A n c zs := by
  refine ⟨h.1, ?_⟩
  rcases h.2 with hn | ⟨b, cap, cur, hv, hb, hh, rest⟩
  · exact .inl hn
  · refine .inr ⟨b, cap, cur, hv, hb, ?_, rest⟩
    rw [hk.block b (Array.getElem?_eq_some_iff.1 hh).1 (by omega)]
    exact hh
end Go.Proofs.Ythpgkngkmmameaa
