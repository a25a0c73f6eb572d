/-
  'append(out, list...)' onto an owned row; the row of a literal of one. Conditions: at most 10000000 elements.
-/
import Derived.Test.YthpgkngkmmameaaMem
namespace Go.Proofs.Ythpgkngkmmameaa
open Go.RowKit
set_option linter.unusedVariables false
theorem Row.oneS (w : World) {base : Nat} (x : Int) (hb : base ≤ w.heap.size) : Row (w.alloc (.cells #[.int .i64 x] 2)) base (some ⟨w.heap.size, 0, none⟩) 1 1 [x] :=
  ⟨by simp, .inr ⟨w.heap.size, 1, #[.int .i64 x], rfl, hb, heap_alloc_new w _, Nat.le_refl _, by unfold maxLen; omega, by simp, by simp⟩⟩
theorem wpList_appendS {w : World} {ops : Array Oper} {rest : List Oper} {o : Oper} {a : Act} {Q : Exit → Act → World → Prop} (hgd : o.guard = none) (s x : Operand)
    (ho : o.op = .call { callee := .builtin .append, args := #[s, x], argTypes := #[22, 22] })
    (base : Nat) (A : Option Addr) (n c : Nat) (zs : List Int) (hs : a.eval s = .slice A n c) (hown : Row w base A n c zs)
    (b off m cx : Nat) (ys : List Int) (hx : a.eval x = .slice (some ⟨b, off, none⟩) m cx) (hl : ys.length = m) (hy : ∀ (j : Nat) (y : Int), ys[j]? = some y → w.cell? ⟨b, off + j, none⟩ = some (.int .i64 y)) (hlen : n + m ≤ 10000000) (hpos : 1 ≤ n + m) (hbase : base ≤ w.heap.size)
    (h : ∀ (g' c' : Nat) (w' : World), Row w' base (some ⟨g', 0, none⟩) (n + m) c' (zs ++ ys) → Below base w w' → w.grownBy w' (Value.slice A n c).ownBlock → wpList Try.prog ops Q rest (a.put o.dst (.slice (some ⟨g', 0, none⟩) (n + m) c')) w') :
    wpList Try.prog ops Q (o :: rest) a w := by
  obtain ⟨i0, hi, hz0, hz1, hz2⟩ := info_parts info_int
  refine wpList_append_own (P := Try.prog) w hgd s x 22 ho base 2 i0 (.int .i64 0) 1 8 Try.underlying22 hi hz0 hz1 hz2 rfl (by decide) (.slice A n c) n _ hs hown ⟨b, off, none⟩ m cx (ys.map (.int .i64)) hx (by simp [hl]) ?_ ?_ (by unfold maxLen; omega) (by omega) hbase ?_
  · intro j u hu
    rw [List.getElem?_map] at hu
    cases hj : ys[j]? with
    | none => rw [hj] at hu; simp at hu
    | some y => rw [hj] at hu; simp at hu; subst hu; rw [Addr.add_lit]; exact hy j y hj
  · intro u hu
    rw [List.mem_map] at hu
    obtain ⟨y, -, rfl⟩ := hu
    rfl
  · intro v' w' hown' hg _
    obtain ⟨g', c', rfl⟩ : ∃ g' c', v' = .slice (some ⟨g', 0, none⟩) (n + m) c' := by
      rcases hown'.2 with ⟨_, h0⟩ | ⟨g', c', cur, hv, _⟩
      · omega
      · exact ⟨g', c', hv⟩
    refine h g' c' w' ?_ ?_ hg
    · unfold Row
      simpa using hown'
    · refine (Below.refl _ _).grown hg hbase (fun k hk => ?_)
      exact (World.ownsRow.lt hown k hk).1
end Go.Proofs.Ythpgkngkmmameaa
