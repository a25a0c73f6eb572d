/-
  How a slice argument reads: 'IsRow' gives 'RI'; what a function with a list and a code hands back ('LR'). Conditions: none.
-/
import Derived.Test.YthpgkngkmmameaaFrame
import Derived.Test.YthpgkngkmmameaaLaw
namespace Go.Proofs.Ythpgkngkmmameaa
open Go.RowKit
theorem isRow_len {k : IntKind} {w : World} {a : Option Addr} {len cap : Nat} {zs : List Int} (h : IsRow k w a len cap zs) : (zs.take len).length = len := by
  rcases h with ⟨_, rfl, _, rfl⟩ | ⟨x, _, hl, _, hz, _⟩
  · rfl
  · rw [List.length_take]; omega
theorem isRow_ri {w : World} {a : Option Addr} {len cap : Nat} {zs : List Int} (h : IsRow .i64 w a len cap zs) : RI w a (zs.take len) := by
  rcases h with ⟨_, rfl, _, rfl⟩ | ⟨x, rfl, hl, _, hz, hc, _⟩
  · exact .inl rfl
  · rcases Nat.eq_zero_or_pos len with h0 | h0
    · exact .inl (by rw [h0]; rfl)
    · have h1 := hc 0 (by omega)
      obtain ⟨b, off, spot⟩ := x
      have hs : spot = none := by
        cases spot with
        | none => rfl
        | some q =>
          simp only [Addr.add, ↓reduceIte, World.cell?] at h1
          split at h1 <;> simp at h1
      subst hs
      refine .inr ⟨b, off, rfl, World.block_lt_of_cell? w _ (by rw [Addr.add_lit] at h1; exact h1), fun j y hy => ?_⟩
      have hj : j < len := by
        have := (List.getElem?_eq_some_iff.1 hy).1
        rw [List.length_take] at this
        omega
      have h2 := hc j (by omega)
      rw [Addr.add_lit] at h2
      rw [h2]
      rw [List.getElem?_take_of_lt hj] at hy
      simp [List.getD, hy]
theorem isRow_wf {k : IntKind} {w : World} {a : Option Addr} {len cap : Nat} {zs : List Int} (h : IsRow k w a len cap zs) : ∀ x ∈ zs.take len, (Lit.int k x).wf = true := by
  rcases h with ⟨_, _, _, rfl⟩ | ⟨x, _, _, _, _, _, hw⟩
  · simp
  · exact fun y hy => hw y (List.mem_of_mem_take hy)
/-- A function that hands back a list of its own and a code. -/
def LR (w : World) (V : List Int) (E : Int) (e : Ending) (w' : World) : Prop :=
  ∃ (G : Option Addr) (n c : Nat), e = .returned (.tuple #[.slice G n c, .int .i64 E]) ∧ Hid (V.length = n) ∧ n ≤ 1048576 ∧ OI w' w.heap.size w'.heap.size G V ∧ Below w.heap.size w w'
theorem LR.mk {w w' : World} {V : List Int} {E E' : Int} {G : Option Addr} {n c : Nat} (hE : E' = E) (hl : V.length = n) (hn : n ≤ 1048576) (ho : OI w' w.heap.size w'.heap.size G V) (hb : Below w.heap.size w w') : LR w V E (.returned (.tuple #[.slice G n c, .int .i64 E'])) w' :=
  ⟨G, n, c, by rw [hE], hl, hn, ho, hb⟩
end Go.Proofs.Ythpgkngkmmameaa
