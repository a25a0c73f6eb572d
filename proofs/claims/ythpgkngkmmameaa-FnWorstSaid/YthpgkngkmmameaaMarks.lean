/-
  Rows of bool: read, copied by append([]bool{}, out...), marked. The sum of those that are not marked. Conditions: at most 10000000 elements.
-/
import Derived.Test.YthpgkngkmmameaaMem
import Derived.Test.YthpgkngkmmameaaIcmSame
namespace Go.Proofs.Ythpgkngkmmameaa
open Go.RowKit
set_option linter.unusedVariables false
/-- The sum of those before n that are not marked. -/
def ksum (S : List Int) (o : List Bool) : Nat → Int
  | 0 => 0
  | n + 1 => if o.getD n false = true then ksum S o n else ksum S o n + S.getD n 0
theorem ksum_succ (S : List Int) (o : List Bool) (n : Nat) : ksum S o (n + 1) = if o.getD n false = true then ksum S o n else ksum S o n + S.getD n 0 := rfl
theorem ksum_idx (S : List Int) (o : List Bool) (n : Nat) : ksum S o n = sumL ((idxL o n).map fun j => S.getD j 0) := by
  induction n with
  | zero => rfl
  | succ n ih =>
    rw [idxL_succ, List.map_append, sumL_app, ← ih, ksum_succ]
    by_cases h : o.getD n false = true
    · rw [if_pos h, if_pos h]; simp [sumL]
    · rw [if_neg h, if_neg h]; simp [sumL]
theorem ksum_keep (S : List Int) (o : List Bool) : ksum S o S.length = sumL (keepL S o) := by rw [keep_eq, ksum_idx]
theorem ksum_bound {S : List Int} {o : List Bool} {B : Int} (hS : ∀ x ∈ S, 0 ≤ x ∧ x ≤ B) (hB : 0 ≤ B) (n : Nat) : 0 ≤ ksum S o n ∧ ksum S o n ≤ B * n := by
  have hg : ∀ j, 0 ≤ S.getD j 0 ∧ S.getD j 0 ≤ B := by
    intro j
    rw [List.getD]
    cases h : S[j]? with
    | none => exact ⟨Int.le_refl _, hB⟩
    | some x => exact hS x (List.mem_of_getElem? h)
  induction n with
  | zero => simp [ksum]
  | succ n ih =>
    rw [ksum_succ]
    have := hg n
    have e : B * ((n + 1 : Nat) : Int) = B * n + B := by rw [Int.natCast_add, Int.mul_add]; simp
    rw [e]
    split <;> omega
theorem ksum_mono {S : List Int} {o : List Bool} (hS : ∀ x ∈ S, 0 ≤ x) {n m : Nat} (h : n ≤ m) : ksum S o n ≤ ksum S o m := by
  induction m with
  | zero => obtain rfl : n = 0 := by omega
            exact Int.le_refl _
  | succ m ih =>
    by_cases hn : n = m + 1
    · subst hn; exact Int.le_refl _
    · have h1 := ih (by omega)
      have h2 : 0 ≤ S.getD m 0 := by
        rw [List.getD]
        cases h : S[m]? with
        | none => exact Int.le_refl _
        | some x => exact hS x (List.mem_of_getElem? h)
      rw [ksum]
      split <;> omega
theorem ksum_pos {S : List Int} {o : List Bool} {i : Nat} (hS : ∀ x ∈ S, 1 ≤ x) (hi : i < S.length) (ho : o.getD i false = false) : 1 ≤ ksum S o S.length := by
  have h0 : ∀ x ∈ S, 0 ≤ x := fun x hx => by have := hS x hx; omega
  have h1 := ksum_mono (o := o) h0 (n := i + 1) (m := S.length) (by omega)
  have h2 := ksum_mono (o := o) h0 (n := 0) (m := i) (by omega)
  have h3 : 1 ≤ S.getD i 0 := by
    rw [List.getD, List.getElem?_eq_getElem hi]
    exact hS _ (List.getElem_mem hi)
  rw [ksum, if_neg (by rw [ho]; simp)] at h1
  rw [ksum] at h2
  omega
theorem info_bool : (Try.prog.info? 4).map (fun i => (i.zero, i.size, i.bytes)) = some (some (.bool false), 1, 1) := by kernel_rfl
/-- What is read: a row of bool. -/
def RB (w : World) (A : Option Addr) (o : List Bool) : Prop := o = [] ∨ ∃ b off, A = some ⟨b, off, none⟩ ∧ b < w.heap.size ∧ ∀ (j : Nat) (x : Bool), o[j]? = some x → w.cell? ⟨b, off + j, none⟩ = some (.bool x)
theorem RB.below {w w' : World} {A : Option Addr} {o : List Bool} (h : RB w A o) (hb : Below w.heap.size w w') : RB w' A o := by
  rcases h with h | ⟨b, off, h1, h2, h3⟩
  · exact .inl h
  · exact .inr ⟨b, off, h1, Nat.lt_of_lt_of_le h2 hb.size, fun j x hx => (hb.cell (p := ⟨b, off + j, none⟩) h2).trans (h3 j x hx)⟩
/-- A row of bool that the call owns. -/
def RowB (w : World) (base : Nat) (A : Option Addr) (n c : Nat) (o : List Bool) : Prop := w.ownsRow base 4 1 (.slice A n c) n (o.map .bool)
theorem RowB.empty (w : World) {base : Nat} (hb : base ≤ w.heap.size) : RowB (w.alloc (.cells #[] 4)) base (some ⟨w.heap.size, 0, none⟩) 0 0 [] :=
  World.ownsRow_made w #[] 0 hb (Nat.zero_le _) rfl
theorem RowB.parts {w : World} {base g n c : Nat} {o : List Bool} (h : RowB w base (some ⟨g, 0, none⟩) n c o) : base ≤ g ∧ g < w.heap.size ∧ (∀ j, w.frozen? ⟨g, j, none⟩ = false) ∧ ∀ (j : Nat) (x : Bool), o[j]? = some x → w.cell? ⟨g, j, none⟩ = some (.bool x) := by
  have hcells : ∀ (j : Nat) (x : Bool), o[j]? = some x → w.cell? ⟨g, j, none⟩ = some (.bool x) := by
    intro j x hx
    have h1 : (o.map (Value.bool))[j]? = some (.bool x) := by simp [hx]
    have := World.ownsRow.cells h (g := g) rfl j _ h1
    rwa [Addr.add_lit, Nat.zero_add] at this
  rcases h.2 with ⟨hv, _⟩ | ⟨g', cap, cur, hv, hb, hh, hn, hc, _, _⟩
  · cases hv
  · injection hv with e _ e2
    injection e with e
    injection e with e
    subst e
    exact ⟨hb, (Array.getElem?_eq_some_iff.1 hh).1, fun j => by simp [World.frozen?, hh], hcells⟩
theorem wpList_appendB {w : World} {ops : Array Oper} {rest : List Oper} {o : Oper} {a : Act} {Q : Exit → Act → World → Prop} (hgd : o.guard = none) (s x : Operand)
    (ho : o.op = .call { callee := .builtin .append, args := #[s, x], argTypes := #[111, 111] })
    (base : Nat) (A : Option Addr) (n c : Nat) (zs : List Bool) (hs : a.eval s = .slice A n c) (hown : RowB w base A n c zs)
    (b off m cx : Nat) (ys : List Bool) (hx : a.eval x = .slice (some ⟨b, off, none⟩) m cx) (hl : ys.length = m) (hy : ∀ (j : Nat) (y : Bool), ys[j]? = some y → w.cell? ⟨b, off + j, none⟩ = some (.bool y)) (hlen : n + m ≤ 10000000) (hpos : 1 ≤ n + m) (hbase : base ≤ w.heap.size)
    (h : ∀ (g' c' : Nat) (w' : World), RowB w' base (some ⟨g', 0, none⟩) (n + m) c' (zs ++ ys) → Below base w w' → wpList Try.prog ops Q rest (a.put o.dst (.slice (some ⟨g', 0, none⟩) (n + m) c')) w') :
    wpList Try.prog ops Q (o :: rest) a w := by
  obtain ⟨i0, hi, hz0, hz1, hz2⟩ := info_parts info_bool
  refine wpList_append_own (P := Try.prog) w hgd s x 111 ho base 4 i0 (.bool false) 1 1 Try.underlying111 hi hz0 hz1 hz2 rfl (by decide) (.slice A n c) n _ hs hown ⟨b, off, none⟩ m cx (ys.map .bool) hx (by simp [hl]) ?_ ?_ (by unfold maxLen; omega) (by omega) hbase ?_
  · intro j u hu
    rw [List.getElem?_map] at hu
    cases hj : ys[j]? with
    | none => rw [hj] at hu; simp at hu
    | some y => rw [hj] at hu; simp at hu; subst hu; rw [Addr.add_lit]; exact hy j y hj
  · intro u hu
    rw [List.mem_map] at hu
    obtain ⟨y, -, rfl⟩ := hu
    rfl
  · intro v' w' hown' hg _
    obtain ⟨g', c', rfl⟩ : ∃ g' c', v' = .slice (some ⟨g', 0, none⟩) (n + m) c' := by
      rcases hown'.2 with ⟨_, h0⟩ | ⟨g', c', cur, hv, _⟩
      · omega
      · exact ⟨g', c', hv⟩
    refine h g' c' w' ?_ ?_
    · unfold RowB
      simpa using hown'
    · refine (Below.refl _ _).grown hg hbase (fun k hk => ?_)
      exact (World.ownsRow.lt hown k hk).1
end Go.Proofs.Ythpgkngkmmameaa
