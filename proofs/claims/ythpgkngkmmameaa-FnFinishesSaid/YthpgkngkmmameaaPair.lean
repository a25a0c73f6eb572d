/-
  Two rows of the call's own that grow side by side. Conditions: at most 10000000 elements.
-/
import Derived.Test.YthpgkngkmmameaaMem
import Derived.Deep.AppendLies
namespace Go.Proofs.Ythpgkngkmmameaa
open Go.RowKit
set_option linter.unusedVariables false
structure RowPair (w wr : World) (g1 n1 c1 : Nat) (l1 : List Int) (g2 n2 c2 : Nat) (l2 : List Int) : Prop where
  ne : g1 ≠ g2
  r1 : Row wr w.heap.size (some ⟨g1, 0, none⟩) n1 c1 l1
  r2 : Row wr w.heap.size (some ⟨g2, 0, none⟩) n2 c2 l2
  below : Below w.heap.size w wr
section
variable {w wr : World} {g1 n1 c1 g2 n2 c2 : Nat} {l1 l2 : List Int}
theorem RowPair.swap (h : RowPair w wr g1 n1 c1 l1 g2 n2 c2 l2) : RowPair w wr g2 n2 c2 l2 g1 n1 c1 l1 := ⟨h.ne.symm, h.r2, h.r1, h.below⟩
theorem RowPair.alloc (h : RowPair w wr g1 n1 c1 l1 g2 n2 c2 l2) (o : Obj) : RowPair w (wr.alloc o) g1 n1 c1 l1 g2 n2 c2 l2 := ⟨h.ne, h.r1.alloc o, h.r2.alloc o, h.below.alloc h.below.size o⟩
theorem RowPair.drewN (h : RowPair w wr g1 n1 c1 l1 g2 n2 c2 l2) (q : Nat) : RowPair w (wr.drewN q) g1 n1 c1 l1 g2 n2 c2 l2 := ⟨h.ne, h.r1, h.r2, below_drewN h.below _⟩
theorem RowPair.step {w' : World} (h : RowPair w wr g1 n1 c1 l1 g2 n2 c2 l2) (hb : Below wr.heap.size wr w') : RowPair w w' g1 n1 c1 l1 g2 n2 c2 l2 := ⟨h.ne, h.r1.below hb, h.r2.below hb, below_step h.below hb h.below.size⟩
theorem Row.blt {base g n c : Nat} {zs : List Int} (h : Row wr base (some ⟨g, 0, none⟩) n c zs) : base ≤ g ∧ g < wr.heap.size := by
  rcases h.2 with ⟨hv, _⟩ | ⟨g', cap, cur, hv, hb, hg, _⟩
  · cases hv
  · injection hv with hv _ _
    injection hv with hv
    injection hv with hv
    subst hv
    exact ⟨hb, (Array.getElem?_eq_some_iff.1 hg).1⟩
theorem RowPair.new (w : World) : RowPair w ((w.alloc (.cells #[] 2)).alloc (.cells #[] 2)) w.heap.size 0 0 [] (w.heap.size + 1) 0 0 [] := by
  have h1 := (Row.empty w (Nat.le_refl w.heap.size)).alloc (.cells #[] 2)
  have h2 := Row.empty (w.alloc (.cells #[] 2)) (base := w.heap.size) (by simp)
  rw [show (w.alloc (.cells #[] 2)).heap.size = w.heap.size + 1 by simp] at h2
  exact ⟨by omega, h1, h2, (((Below.refl _ _).alloc (Nat.le_refl _) _).alloc (by simp) _)⟩
/-- 'append(a, y)', a the first of the pair. -/
theorem wpList_pair1 {ops : Array Oper} {rest : List Oper} {o : Oper} {a : Act} {Q : Exit → Act → World → Prop} (hgd : o.guard = none) (s x : Operand)
    (ho : o.op = .call { callee := .builtin .append, args := #[s, x], argTypes := #[22, 22] })
    (hp : RowPair w wr g1 n1 c1 l1 g2 n2 c2 l2) (hs : a.eval s = .slice (some ⟨g1, 0, none⟩) n1 c1)
    (g cx : Nat) (y : Int) (hx : a.eval x = .slice (some ⟨g, 0, none⟩) 1 cx) (hy : wr.cell? ⟨g, 0, none⟩ = some (.int .i64 y)) (hlen : n1 ≤ 10000000)
    (h : ∀ (g' c' : Nat) (w' : World), RowPair w w' g' (n1 + 1) c' (l1 ++ [y]) g2 n2 c2 l2 → wpList Try.prog ops Q rest (a.put o.dst (.slice (some ⟨g', 0, none⟩) (n1 + 1) c')) w') :
    wpList Try.prog ops Q (o :: rest) a wr := by
  obtain ⟨i0, hi, hz0, hz1, hz2⟩ := info_parts info_int
  have hbase := hp.below.size
  refine wpList_append_lies (P := Try.prog) wr hgd s x 22 ho w.heap.size 2 i0 (.int .i64 0) 1 8 Try.underlying22 hi hz0 hz1 hz2 rfl (by decide) (.slice (some ⟨g1, 0, none⟩) n1 c1) n1 _ hs hp.r1 ⟨g, 0, none⟩ 1 cx [.int .i64 y] hx rfl ?_ ?_ (by decide) (by unfold maxLen; omega) (by omega) hbase wr.heap.size rfl ?_
  · intro j u hu
    cases j with
    | zero => simp at hu; subst hu; rw [Addr.add_lit]; exact hy
    | succ j => simp at hu
  · intro u hu
    simp at hu
    subst hu
    rfl
  · intro g' cap w' hown' hg hlies hlt
    refine h g' cap w' ⟨?_, ?_, ?_, ?_⟩
    · rcases hlies with e | e
      · have : g1 = g' := by simpa [Value.ownBlock] using e
        rw [← this]; exact hp.ne
      · have := hp.r2.blt.2
        omega
    · unfold Row
      simpa using hown'
    · refine World.ownsRow.kept hp.r2 hg (.inr ?_)
      intro e
      have : g2 = g1 := by simpa [Value.ownBlock] using e
      exact hp.ne this.symm
    · refine hp.below.grown hg hbase (fun k hk => ?_)
      have : g1 = k := by simp [Value.ownBlock] at hk; omega
      rw [← this]
      exact hp.r1.blt.1
/-- 'append(b, y)', b the second of the pair. -/
theorem wpList_pair2 {ops : Array Oper} {rest : List Oper} {o : Oper} {a : Act} {Q : Exit → Act → World → Prop} (hgd : o.guard = none) (s x : Operand)
    (ho : o.op = .call { callee := .builtin .append, args := #[s, x], argTypes := #[22, 22] })
    (hp : RowPair w wr g1 n1 c1 l1 g2 n2 c2 l2) (hs : a.eval s = .slice (some ⟨g2, 0, none⟩) n2 c2)
    (g cx : Nat) (y : Int) (hx : a.eval x = .slice (some ⟨g, 0, none⟩) 1 cx) (hy : wr.cell? ⟨g, 0, none⟩ = some (.int .i64 y)) (hlen : n2 ≤ 10000000)
    (h : ∀ (g' c' : Nat) (w' : World), RowPair w w' g1 n1 c1 l1 g' (n2 + 1) c' (l2 ++ [y]) → wpList Try.prog ops Q rest (a.put o.dst (.slice (some ⟨g', 0, none⟩) (n2 + 1) c')) w') :
    wpList Try.prog ops Q (o :: rest) a wr :=
  wpList_pair1 hgd s x ho hp.swap hs g cx y hx hy hlen fun g' c' w' hp' => h g' c' w' hp'.swap
end
end Go.Proofs.Ythpgkngkmmameaa
