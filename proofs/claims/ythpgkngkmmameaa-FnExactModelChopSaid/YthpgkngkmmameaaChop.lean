/-
  ModelChop: the equities rounded down, and what is left given out by the greatest rests: plain functions and the two rows of the call. Conditions: none.
-/
import Derived.Test.YthpgkngkmmameaaAccept
import Derived.Test.YthpgkngkmmameaaWorstSpec
import Derived.Test.YthpgkngkmmameaaDivide
import Derived.Test.YthpgkngkmmameaaIcmChip
namespace Go.Proofs.Ythpgkngkmmameaa
open Go.RowKit
set_option linter.unusedVariables false
def flQ (qs : List (Int × Int)) : List Int := qs.map fun q => q.1 / q.2
def rsQ (qs : List (Int × Int)) : List (Int × Int) := qs.map fun q => (q.1 % q.2, q.2)
/-- The first of the greatest ones. -/
def maxQ (rs : List (Int × Int)) : Nat → Nat
  | 0 => 0
  | k + 1 => if 0 < cmpI ((getQ rs k).1 * (getQ rs (maxQ rs k)).2) ((getQ rs (maxQ rs k)).1 * (getQ rs k).2) then k else maxQ rs k
theorem maxQ_lt (ds : List (Int × Int)) {k n : Nat} (h : k ≤ n) (hn : 0 < n) : maxQ ds k < n := by
  induction k with
  | zero => exact hn
  | succ k ih => unfold maxQ; split; omega; exact ih (by omega)
theorem maxQ_one (ds : List (Int × Int)) : maxQ ds 1 = 0 := by
  unfold maxQ
  split <;> rfl
def giveQ : Nat → List Int × List (Int × Int) → List Int × List (Int × Int)
  | 0, s => s
  | k + 1, s => ((giveQ k s).1.set (maxQ (giveQ k s).2 (giveQ k s).2.length) ((giveQ k s).1.getD (maxQ (giveQ k s).2 (giveQ k s).2.length) 0 + 1), (giveQ k s).2.set (maxQ (giveQ k s).2 (giveQ k s).2.length) (-1, 1))
theorem giveQ_len (k : Nat) (s : List Int × List (Int × Int)) : (giveQ k s).1.length = s.1.length ∧ (giveQ k s).2.length = s.2.length := by
  induction k with
  | zero => exact ⟨rfl, rfl⟩
  | succ k ih => simp only [giveQ, List.length_set]; exact ih
theorem giveQ_step {k b : Nat} {s : List Int × List (Int × Int)} {x : Int} (hb : maxQ (giveQ k s).2 s.2.length = b) (hx : (giveQ k s).1[b]? = some x) : giveQ (k + 1) s = ((giveQ k s).1.set b (x + 1), (giveQ k s).2.set b (-1, 1)) := by
  rw [← (giveQ_len k s).2] at hb
  simp only [giveQ, hb]
  rw [show (giveQ k s).1.getD b 0 = x by simp [List.getD, hx]]
theorem giveQ_sm {s : List Int × List (Int × Int)} (h : ∀ q ∈ s.2, Sm q.1 q.2) (k : Nat) : ∀ q ∈ (giveQ k s).2, Sm q.1 q.2 := by
  induction k with
  | zero => exact h
  | succ k ih =>
    intro q hq
    simp only [giveQ] at hq
    rcases List.mem_or_eq_of_mem_set hq with hq | rfl
    · exact ih q hq
    · exact ⟨by decide, by decide, by decide, by decide⟩
theorem giveQ_bd {s : List Int × List (Int × Int)} {B : Int} (h0 : 0 ≤ B) (h : ∀ x ∈ s.1, 0 ≤ x ∧ x ≤ B) (k : Nat) : ∀ x ∈ (giveQ k s).1, 0 ≤ x ∧ x ≤ B + k := by
  induction k with
  | zero => intro x hx; have := h x hx; omega
  | succ k ih =>
    intro x hx
    simp only [giveQ] at hx
    rcases List.mem_or_eq_of_mem_set hx with hx | rfl
    · have := ih x hx; omega
    · by_cases hl : maxQ (giveQ k s).2 (giveQ k s).2.length < (giveQ k s).1.length
      · have := ih _ (getD_mem hl); omega
      · rw [show (giveQ k s).1.getD (maxQ (giveQ k s).2 (giveQ k s).2.length) 0 = 0 by simp [List.getD, hl]]; omega
theorem flQ_bd {qs : List (Int × Int)} (h : ∀ q ∈ qs, 0 ≤ q.1 ∧ Sm q.1 q.2) : ∀ x ∈ flQ qs, 0 ≤ x ∧ x ≤ 1000000000 := by
  intro x hx
  obtain ⟨q, hq, rfl⟩ := List.mem_map.1 hx
  obtain ⟨h0, h1⟩ := h q hq
  have := h1.d0
  have := h1.n1
  have a := Int.ediv_nonneg h0 (show 0 ≤ q.2 by omega)
  have b : q.1 / q.2 ≤ q.1 := Int.ediv_le_self _ h0
  omega
theorem rsQ_sm {qs : List (Int × Int)} (h : ∀ q ∈ qs, 0 ≤ q.1 ∧ Sm q.1 q.2) : ∀ q ∈ rsQ qs, Sm q.1 q.2 := by
  intro x hx
  obtain ⟨q, hq, rfl⟩ := List.mem_map.1 hx
  obtain ⟨h0, h1⟩ := h q hq
  have := h1.d0
  have := h1.d1
  have a := Int.emod_nonneg q.1 (show q.2 ≠ 0 by omega)
  have b := Int.emod_lt_of_pos q.1 (show 0 < q.2 by omega)
  exact ⟨by show -1000000000 ≤ q.1 % q.2; omega, by show q.1 % q.2 ≤ 1000000000; omega, h1.d0, h1.d1⟩
def mcL (S P : List Int) : Int := sumL P - sumL (flQ (feL S P))
def mcV (S P : List Int) : List Int := if feE S P = 0 then (giveQ (mcL S P).toNat (flQ (feL S P), rsQ (feL S P))).1 else []
/-- What the equities bear. -/
structure ChOk (S P : List Int) (es : List (Int × Int)) : Prop where
  len : es.length = S.length
  n1 : 2 ≤ S.length
  n2 : S.length ≤ 5
  q : ∀ q ∈ es, 0 ≤ q.1 ∧ Sm q.1 q.2
  e : feL S P = es
  sp : 0 ≤ sumL P ∧ sumL P ≤ 500000
  bp : Hid (∀ x ∈ P, -4000000000 ≤ x ∧ x ≤ 4000000000)
  pr : prizesB S P = true
  fk : feK S P S.length = some es
theorem ch_ok {S P : List Int} (hE : feE S P = 0) : ∃ es, ChOk S P es := by
  have h1 : prizesB S P = true := by
    by_cases h : prizesB S P = true
    · exact h
    · exfalso; unfold feE at hE; rw [if_neg h] at hE; exact absurd hE (by decide)
  obtain ⟨es, hk, hl⟩ := feE_zero h1 hE
  obtain ⟨f1, f2, f3⟩ := fieldB_iff.1 (prizesB_iff.1 h1).1
  have hok := prizes_ok (i := 0) h1 (by omega)
  obtain ⟨p0, p1⟩ := hok.psum
  have hg := feK_good h1 (Nat.le_refl _) hk
  refine ⟨es, feK_len hk, f1, f2, fun q hq => ?_, hl, ⟨by omega, by omega⟩, hok.bigP, h1, hk⟩
  obtain ⟨j, hj, rfl⟩ := List.getElem_of_mem hq
  have := hg j (by rw [← feK_len hk]; exact hj)
  rw [getQ_some (show es[j]? = some es[j] from List.getElem?_eq_getElem hj)] at this
  exact ⟨this.1, Sm.of this.2⟩
/-- Two rows of the call's own: numbers and ratios. -/
structure ChSt (w wr : World) (g1 g2 : Nat) (ss : List Int) (rs : List (Int × Int)) : Prop where
  ne : g1 ≠ g2
  s : OI wr g1 (g1 + 1) (some ⟨g1, 0, none⟩) ss
  r : OQ wr g2 (g2 + 1) (some ⟨g2, 0, none⟩) rs
  below : Below w.heap.size w wr
  l1 : w.heap.size ≤ g1
  l2 : w.heap.size ≤ g2
  z1 : g1 < wr.heap.size
  z2 : g2 < wr.heap.size
theorem ChSt.set1 {w wr : World} {g1 g2 : Nat} {ss : List Int} {rs : List (Int × Int)} (h : ChSt w wr g1 g2 ss rs) {j : Nat} (hj : j < ss.length) (x : Int) : ChSt w (wr.setCell ⟨g1, j, none⟩ (.int .i64 x)) g1 g2 (ss.set j x) rs := by
  have h1 := h.s.set hj x
  rw [Nat.zero_add] at h1
  have hne := h.ne
  exact ⟨h.ne, h1, h.r.kept (Kept.at_ g1 j _ rfl) (by omega), h.below.setCell h.l1 _, h.l1, h.l2, by simpa [World.setCell] using h.z1, by simpa [World.setCell] using h.z2⟩
theorem ChSt.set2 {w wr : World} {g1 g2 : Nat} {ss : List Int} {rs : List (Int × Int)} (h : ChSt w wr g1 g2 ss rs) {j : Nat} (hj : j < rs.length) (x y : Int) : ChSt w ((wr.setCell ⟨g2, j * 2, none⟩ (.int .i64 x)).setCell ⟨g2, j * 2 + 1, none⟩ (.int .i64 y)) g1 g2 ss (rs.set j (x, y)) := by
  have h1 := h.r.set hj x y
  have hne := h.ne
  exact ⟨h.ne, (h.s.kept (Kept.at_ g2 (j * 2) _ rfl) (by omega)).kept (Kept.at_ g2 (j * 2 + 1) _ rfl) (by omega), h1, (h.below.setCell h.l2 _).setCell h.l2 _, h.l1, h.l2, by simpa [World.setCell] using h.z1, by simpa [World.setCell] using h.z2⟩
theorem ChSt.step {w wr w' : World} {g1 g2 : Nat} {ss : List Int} {rs : List (Int × Int)} (h : ChSt w wr g1 g2 ss rs) (hb : Below wr.heap.size wr w') : ChSt w w' g1 g2 ss rs :=
  ⟨h.ne, h.s.below hb, h.r.below hb, below_step h.below hb h.below.size, h.l1, h.l2, Nat.lt_of_lt_of_le h.z1 hb.size, Nat.lt_of_lt_of_le h.z2 hb.size⟩
theorem ChSt.drew {w wr : World} {g1 g2 : Nat} {ss : List Int} {rs : List (Int × Int)} (h : ChSt w wr g1 g2 ss rs) : ChSt w wr.drew g1 g2 ss rs := ⟨h.ne, h.s, h.r, h.below.drew, h.l1, h.l2, h.z1, h.z2⟩
theorem ChSt.cells1 {w wr : World} {g1 g2 : Nat} {ss : List Int} {rs : List (Int × Int)} (h : ChSt w wr g1 g2 ss rs) {j : Nat} {x : Int} (hx : ss[j]? = some x) : wr.cell? ⟨g1, j, none⟩ = some (.int .i64 x) ∧ wr.frozen? ⟨g1, j, none⟩ = false := by have := h.s.cellX hx; rwa [Nat.zero_add] at this
theorem ChSt.cells2 {w wr : World} {g1 g2 : Nat} {ss : List Int} {rs : List (Int × Int)} (h : ChSt w wr g1 g2 ss rs) {j : Nat} {x y : Int} (hx : rs[j]? = some (x, y)) : wr.cell? ⟨g2, j * 2, none⟩ = some (.int .i64 x) ∧ wr.cell? ⟨g2, j * 2 + 1, none⟩ = some (.int .i64 y) ∧ wr.frozen? ⟨g2, j * 2, none⟩ = false ∧ wr.frozen? ⟨g2, j * 2 + 1, none⟩ = false := h.r.at_ hx
theorem flat_rep : ∀ n : Nat, (List.replicate n ((0 : Int), (0 : Int))).flatMap (fun q => [Value.int .i64 q.1, Value.int .i64 q.2]) = List.replicate (n * 2) (.int .i64 0)
  | 0 => rfl
  | n + 1 => by
    rw [List.replicate_succ, List.flatMap_cons, flat_rep n, show (n + 1) * 2 = n * 2 + 1 + 1 by omega, List.replicate_succ, List.replicate_succ]
    rfl
theorem made_two (n : Nat) : (madeCells #[Value.int .i64 0, .int .i64 0] (n * 2)).toList = (List.replicate n ((0 : Int), (0 : Int))).flatMap fun q => [Value.int .i64 q.1, Value.int .i64 q.2] := by
  rw [flat_rep]
  apply List.ext_getElem
  · simp [madeCells]
  · intro i h1 h2
    simp only [madeCells, Array.toList_map, List.getElem_map, List.getElem_replicate]
    have : ∀ k : Nat, k < 2 → (#[Value.int .i64 0, .int .i64 0] : Array Value)[k]! = .int .i64 0 := by
      intro k hk
      match k, hk with
      | 0, _ => rfl
      | 1, _ => rfl
    exact this _ (Nat.mod_lt _ (by simp))
theorem OQ.exact {w : World} {lo hi g : Nat} {qs : List (Int × Int)} (h : OQ w lo hi (some ⟨g, 0, none⟩) qs) : OQ w g (g + 1) (some ⟨g, 0, none⟩) qs := by
  rcases h with h | ⟨b, e, l1, l2, h2, h3, h4⟩
  · exact .inl h
  · injection e with e; injection e with e1 e2; subst e1
    exact .inr ⟨g, rfl, Nat.le_refl _, Nat.lt_succ_self _, h2, h3, h4⟩
theorem ChSt.make {w w2 w3 : World} {n : Nat}
    (h1 : w2.ownsRow w.heap.size 2 1 (.slice (some ⟨w.heap.size, 0, none⟩) n n) n (madeCells (Value.int .i64 0).cells (n * 1)).toList) (k1 : w.grownBy w2 none)
    (h2 : w3.ownsRow w2.heap.size 48 2 (.slice (some ⟨w2.heap.size, 0, none⟩) n n) n (madeCells (Value.agg #[.int .i64 0, .int .i64 0]).cells (n * 2)).toList) (k2 : w2.grownBy w3 none) :
    ChSt w w3 w.heap.size w2.heap.size (List.replicate n 0) (List.replicate n (0, 0)) := by
  rw [Nat.mul_one, show (Value.int IntKind.i64 0).cells = #[Value.int IntKind.i64 0] from rfl, toList_madeCells_one, show List.replicate n (Value.int IntKind.i64 0) = (List.replicate n (0 : Int)).map (.int .i64) from by simp] at h1
  rw [show (Value.agg #[.int .i64 0, .int .i64 0]).cells = #[Value.int .i64 0, .int .i64 0] from rfl, made_two] at h2
  have b1 : Below w.heap.size w w2 := (Below.refl _ _).grown k1 (Nat.le_refl _) (by simp)
  have b2 : Below w2.heap.size w2 w3 := (Below.refl _ _).grown k2 (Nat.le_refl _) (by simp)
  have l1 : w.heap.size < w2.heap.size := (World.ownsRow.lt h1 _ rfl).2
  have l2 : w2.heap.size < w3.heap.size := (World.ownsRow.lt h2 _ rfl).2
  have o2 : RowQ w3 w2.heap.size (some ⟨w2.heap.size, 0, none⟩) n n (List.replicate n (0, 0)) := h2
  exact ⟨Nat.ne_of_lt l1, ((OI.of_row h1).below b2).exact, o2.oq.exact, below_step b1 b2 b1.size, Nat.le_refl _, b1.size, Nat.lt_of_lt_of_le l1 b2.size, l2⟩
/-- Rows that are written head first. -/
theorem zero_get {α : Type} {l : List α} {n k : Nat} {z : α} (hl : l.length = n) (hk : k < n) : (l.take k ++ List.replicate (n - k) z)[k]? = some z := by
  rw [List.getElem?_append_right (by simp; omega)]
  simp [List.getElem?_replicate]
  omega
theorem zero_set {α : Type} {l : List α} {n k : Nat} {x z : α} (hl : l.length = n) (hk : k < n) (hx : l[k]? = some x) : (l.take k ++ List.replicate (n - k) z).set k x = l.take (k + 1) ++ List.replicate (n - (k + 1)) z := by
  have h1 : (l.take k).length = k := by simp; omega
  rw [List.set_append_right _ _ (by omega), h1, Nat.sub_self, List.take_add_one, hx, show n - k = (n - (k + 1)) + 1 by omega, List.replicate_succ, List.set_cons_zero]
  simp
theorem flQ_get {qs : List (Int × Int)} {k : Nat} {x y : Int} (h : qs[k]? = some (x, y)) : (flQ qs)[k]? = some (x / y) := by simp [flQ, h]
theorem rsQ_get {qs : List (Int × Int)} {k : Nat} {x y : Int} (h : qs[k]? = some (x, y)) : (rsQ qs)[k]? = some (x % y, y) := by simp [rsQ, h]
theorem flQ_len (qs : List (Int × Int)) : (flQ qs).length = qs.length := by simp [flQ]
theorem rsQ_len (qs : List (Int × Int)) : (rsQ qs).length = qs.length := by simp [rsQ]
end Go.Proofs.Ythpgkngkmmameaa
