/-
  The contracts of dealDifferences, l30Deal, l30Worst, IsAcceptable, WorstDeal. Conditions: at most 1048576 elements.
-/
import Derived.Test.YthpgkngkmmameaaFieldEq
import Derived.Test.YthpgkngkmmameaaCompare
namespace Go.Proofs.Ythpgkngkmmameaa
open Go.RowKit
set_option linter.unusedVariables false
/-- 'append(out, y)' onto a row of ratios in a region that draws its order. -/
theorem step_appendQ {w : World} {ops : Array Oper} {o : Oper} {a : Act} {K : Act → World → Prop} {Q : Exit → Act → World → Prop} {E : Prop} (hgd : o.guard = none) (s x : Operand)
    (ho : o.op = .call { callee := .builtin .append, args := #[s, x], argTypes := #[91, 91] })
    (base : Nat) (A : Option Addr) (n c : Nat) (qs : List (Int × Int)) (hs : a.eval s = .slice A n c) (hown : RowQ w base A n c qs)
    (g cx : Nat) (y z : Int) (hx : a.eval x = .slice (some ⟨g, 0, none⟩) 1 cx) (hy : w.cell? ⟨g, 0, none⟩ = some (.int .i64 y)) (hz : w.cell? ⟨g, 1, none⟩ = some (.int .i64 z)) (hlen : n ≤ 1000000) (hbase : base ≤ w.heap.size)
    (h : ∀ (g' c' : Nat) (w' : World), RowQ w' base (some ⟨g', 0, none⟩) (n + 1) c' (qs ++ [(y, z)]) → Below base w w' → K (a.put o.dst (.slice (some ⟨g', 0, none⟩) (n + 1) c')) w') :
    if Region.wanted o (yielded ops a.tmps) = true then Oper.wp Try.prog o a w K Q else E := by
  have hw : Region.wanted o (yielded ops a.tmps) = true := by simp [Region.wanted, hgd]
  rw [if_pos hw]
  obtain ⟨i0, hi, hz0, hz1, hz2⟩ := info_parts info_ratio
  refine wp_append_own (P := Try.prog) w s x 91 ho base 48 i0 (.agg #[.int .i64 0, .int .i64 0]) 2 16 Try.underlying91 hi hz0 hz1 hz2 rfl (by decide) (.slice A n c) n _ hs hown ⟨g, 0, none⟩ 1 cx [.int .i64 y, .int .i64 z] hx rfl ?_ ?_ (by unfold maxLen; omega) (by omega) hbase ?_
  · intro j u hu
    match j with
    | 0 => simp at hu; subst hu; rw [Addr.add_lit]; exact hy
    | 1 => simp at hu; subst hu; rw [Addr.add_lit]; exact hz
    | j + 2 => simp at hu
  · intro u hu
    simp at hu
    rcases hu with rfl | rfl <;> rfl
  · intro v' w' hown' hg _
    obtain ⟨g', c', rfl⟩ : ∃ g' c', v' = .slice (some ⟨g', 0, none⟩) (n + 1) c' := by
      rcases hown'.2 with ⟨_, h0⟩ | ⟨g', c', cur, hv, _⟩
      · omega
      · exact ⟨g', c', hv⟩
    refine h g' c' w' ?_ ?_
    · unfold RowQ
      rw [List.flatMap_append]
      simpa using hown'
    · refine (Below.refl _ _).grown hg hbase (fun k hk => ?_)
      exact (World.ownsRow.lt hown k hk).1
/-- The code of a field, prizes and a deal. -/
def deB (S P D : List Int) : Int := if prizesB S P = true then (if D.length = S.length ∧ allIn D 0 1000000 = true then (if sumL D = sumL P then 0 else 5) else 2) else 1
def getQ (es : List (Int × Int)) (k : Nat) : Int × Int := es.getD k (0, 1)
theorem getQ_some {es : List (Int × Int)} {k : Nat} {q : Int × Int} (h : es[k]? = some q) : getQ es k = q := by simp [getQ, List.getD, h]
/-- The differences of the first k players, or none. -/
def dfK (es : List (Int × Int)) (D : List Int) : Nat → Option (List (Int × Int))
  | 0 => some []
  | k + 1 => (dfK es D k).bind fun l => (ratQ (D.getD k 0 * (getQ es k).2 - (getQ es k).1) (getQ es k).2).map fun q => l ++ [q]
theorem dfK_len {es : List (Int × Int)} {D : List Int} {k : Nat} {l : List (Int × Int)} (h : dfK es D k = some l) : l.length = k := by
  induction k generalizing l with
  | zero => simp [dfK] at h; subst h; rfl
  | succ k ih =>
    simp only [dfK] at h
    cases h1 : dfK es D k with
    | none => rw [h1] at h; simp at h
    | some l1 =>
      rw [h1] at h
      cases h2 : ratQ (D.getD k 0 * (getQ es k).2 - (getQ es k).1) (getQ es k).2 with
      | none => rw [h2] at h; simp at h
      | some q =>
        rw [h2] at h
        simp at h
        subst h
        simp [ih h1]
theorem dfK_none {es : List (Int × Int)} {D : List Int} {k j : Nat} (h : dfK es D k = none) (hkj : k ≤ j) : dfK es D j = none := by
  induction j with
  | zero => obtain rfl : k = 0 := by omega
            exact h
  | succ j ih =>
    by_cases hk : k = j + 1
    · subst hk; exact h
    · simp only [dfK]; rw [ih (by omega)]; rfl
theorem dfK_get {es : List (Int × Int)} {D : List Int} {k j : Nat} {l : List (Int × Int)} (h : dfK es D k = some l) (hj : j < k) : ∃ q, ratQ (D.getD j 0 * (getQ es j).2 - (getQ es j).1) (getQ es j).2 = some q ∧ l[j]? = some q := by
  induction k generalizing l with
  | zero => omega
  | succ k ih =>
    simp only [dfK] at h
    cases h1 : dfK es D k with
    | none => rw [h1] at h; simp at h
    | some l1 =>
      rw [h1] at h
      cases h2 : ratQ (D.getD k 0 * (getQ es k).2 - (getQ es k).1) (getQ es k).2 with
      | none => rw [h2] at h; simp at h
      | some q =>
        rw [h2] at h
        simp at h
        subst h
        have hl := dfK_len h1
        by_cases hjk : j = k
        · subst hjk
          exact ⟨q, h2, by rw [List.getElem?_append_right (by omega), hl, Nat.sub_self]; rfl⟩
        · obtain ⟨q', e1, e2⟩ := ih h1 (by omega)
          exact ⟨q', e1, by rw [List.getElem?_append_left (by omega)]; exact e2⟩
/-- The equities and the differences, or none. -/
def dwQ (S P D : List Int) : Option (List (Int × Int) × List (Int × Int)) := (feK S P S.length).bind fun es => (dfK es D S.length).map fun ds => (es, ds)
def dwE (S P D : List Int) : Int := if deB S P D = 0 then (if (dwQ S P D).isSome = true then 0 else 3) else deB S P D
/-- The first of the least ones. -/
def bestQ (ds : List (Int × Int)) : Nat → Nat
  | 0 => 0
  | k + 1 => if cmpI ((getQ ds k).1 * (getQ ds (bestQ ds k)).2) ((getQ ds (bestQ ds k)).1 * (getQ ds k).2) < 0 then k else bestQ ds k
theorem bestQ_le (ds : List (Int × Int)) (k : Nat) : bestQ ds k ≤ k := by
  induction k with
  | zero => exact Nat.le_refl _
  | succ k ih => unfold bestQ; split <;> omega
theorem bestQ_lt (ds : List (Int × Int)) {k n : Nat} (h : k ≤ n) (hn : 0 < n) : bestQ ds k < n := by
  induction k with
  | zero => exact hn
  | succ k ih => unfold bestQ; split; omega; exact ih (by omega)
theorem bestQ_one (ds : List (Int × Int)) : bestQ ds 1 = 0 := by
  unfold bestQ
  split <;> rfl
/-- Do the first k get their equity, rounded down? -/
def frB (es : List (Int × Int)) (D : List Int) : Nat → Bool
  | 0 => true
  | k + 1 => frB es D k && decide ((getQ es k).1 / (getQ es k).2 ≤ D.getD k 0)
theorem frB_no {es : List (Int × Int)} {D : List Int} {k j : Nat} (h : frB es D k = false) (hkj : k ≤ j) : frB es D j = false := by
  induction j with
  | zero => obtain rfl : k = 0 := by omega
            exact h
  | succ j ih =>
    by_cases hk : k = j + 1
    · subst hk; exact h
    · unfold frB; rw [ih (by omega)]; rfl
def wdV (S P D : List Int) : Int := match dwQ S P D with | some x => if deB S P D = 0 then (bestQ x.2 S.length : Nat) else 0 | none => 0
def iaV (S P D : List Int) : Bool := match dwQ S P D with | some x => if deB S P D = 0 then frB x.1 D S.length else false | none => false
theorem de_ok {S P D : List Int} (h : deB S P D = 0) : prizesB S P = true ∧ D.length = S.length ∧ (∀ x ∈ D, 0 ≤ x ∧ x ≤ 1000000) ∧ sumL D = sumL P := by
  unfold deB at h
  by_cases h1 : prizesB S P = true
  · rw [if_pos h1] at h
    by_cases h2 : D.length = S.length ∧ allIn D 0 1000000 = true
    · rw [if_pos h2] at h
      by_cases h3 : sumL D = sumL P
      · exact ⟨h1, h2.1, allIn_iff.1 h2.2, h3⟩
      · rw [if_neg h3] at h; exact absurd h (by decide)
    · rw [if_neg h2] at h; exact absurd h (by decide)
  · rw [if_neg h1] at h; exact absurd h (by decide)
theorem desc_le {P : List Int} (h : descB P = true) : ∀ j i, i ≤ j → j < P.length → P.getD j 0 ≤ P.getD i 0 := by
  intro j
  induction j with
  | zero => intro i hi _; obtain rfl : i = 0 := by omega
            exact Int.le_refl _
  | succ j ih =>
    intro i hi hj
    by_cases hij : i = j + 1
    · subst hij; exact Int.le_refl _
    · have h1 := ih i (by omega) (by omega)
      have h2 := descB_le h (j + 1) (by omega) hj
      rw [Nat.add_sub_cancel] at h2
      omega
theorem prizeL_of : ∀ (l : List Int), (∀ x ∈ l, 0 ≤ x) → (∀ j i, i ≤ j → j < l.length → l.getD j 0 ≤ l.getD i 0) → prizeL l := by
  intro l
  induction l with
  | nil => intro _ _; trivial
  | cons p ps ih =>
    intro h0 hd
    refine ⟨h0 p (by simp), fun q hq => ?_, ih (fun x hx => h0 x (by simp [hx])) (fun j i hij hj => ?_)⟩
    · obtain ⟨k, hk, rfl⟩ := List.getElem_of_mem hq
      have := hd (k + 1) 0 (by omega) (by simp; omega)
      simpa [List.getD, List.getElem?_eq_getElem hk] using this
    · have := hd (j + 1) (i + 1) (by omega) (by simp; omega)
      simpa using this
theorem prizes_prizeL {S P : List Int} (h : prizesB S P = true) : prizeL P := by
  obtain ⟨-, -, -, p4, p5⟩ := prizesB_iff.1 h
  exact prizeL_of P (fun x hx => (p4 x hx).1) (desc_le p5)
theorem field_posL {S P : List Int} (h : prizesB S P = true) : posL S := by
  obtain ⟨p1, -⟩ := prizesB_iff.1 h
  obtain ⟨-, -, f3⟩ := fieldB_iff.1 p1
  exact fun x hx => by have := f3 x hx; omega
/-- An equity is never negative. -/
theorem icm_nonneg {S P : List Int} {i : Nat} {q : Int × Int} (h : prizesB S P = true) (hi : i < S.length) (hq : icm P S i = some q) : 0 ≤ q.1 ∧ isR q.1 q.2 = true := by
  obtain ⟨v1, v2⟩ := icm_val P S i q (field_posL h) hi hq
  have hw := (W_bd P (S.getD i 0) (S.eraseIdx i) (prizes_prizeL h) ((field_posL h).get hi) ((field_posL h).erase i)).1
  rw [← v2] at hw
  have h0 : okQ ((0 : Int), (1 : Int)) := okQ_whole (by omega) (by omega)
  have h1 : rv ((0 : Int), (1 : Int)) ≤ rv q := by rw [rv_whole]; exact_mod_cast hw
  have := (rv_cross h0 v1).1 h1
  simp at this
  exact ⟨this, v1⟩
theorem feK_good {S P : List Int} {k : Nat} {es : List (Int × Int)} (h : prizesB S P = true) (hk : k ≤ S.length) (hf : feK S P k = some es) : ∀ j, j < k → 0 ≤ (getQ es j).1 ∧ isR (getQ es j).1 (getQ es j).2 = true := by
  intro j hj
  obtain ⟨q, h1, h2⟩ := feK_get hf hj
  rw [getQ_some h2]
  exact icm_nonneg h (by omega) h1
/-- What dealDifferences hands back. -/
def DD (w : World) (es ds : List (Int × Int)) (E : Int) (e : Ending) (w' : World) : Prop :=
  ∃ (A : Option Addr) (n c : Nat) (B : Option Addr) (m d : Nat), e = .returned (.tuple #[.slice A n c, .slice B m d, .int .i64 E]) ∧ Hid (es.length = n) ∧ Hid (ds.length = m) ∧ OQ w' w.heap.size w'.heap.size A es ∧ OQ w' w.heap.size w'.heap.size B ds ∧ Below w.heap.size w w'
def ddA (S P D : List Int) : List (Int × Int) := match dwQ S P D with | some x => if deB S P D = 0 then x.1 else [] | none => []
def ddB (S P D : List Int) : List (Int × Int) := match dwQ S P D with | some x => if deB S P D = 0 then x.2 else [] | none => []
theorem dd_code {S P D : List Int} (h : ¬ deB S P D = 0) : ddA S P D = [] ∧ ddB S P D = [] ∧ dwE S P D = deB S P D := by
  unfold ddA ddB dwE
  rw [if_neg h]
  cases dwQ S P D <;> simp [h]
theorem dd_none {S P D : List Int} (h : deB S P D = 0) (hq : dwQ S P D = none) : ddA S P D = [] ∧ ddB S P D = [] ∧ dwE S P D = 3 := by
  unfold ddA ddB dwE
  rw [if_pos h, hq]
  exact ⟨rfl, rfl, rfl⟩
theorem dd_some {S P D : List Int} {es ds : List (Int × Int)} (h : deB S P D = 0) (hq : dwQ S P D = some (es, ds)) : ddA S P D = es ∧ ddB S P D = ds ∧ dwE S P D = 0 := by
  unfold ddA ddB dwE
  rw [if_pos h, hq]
  simp [h]
theorem feE_zero {S P : List Int} (h : prizesB S P = true) (hE : feE S P = 0) : ∃ es, feK S P S.length = some es ∧ feL S P = es := by
  unfold feE at hE
  rw [if_pos h] at hE
  cases hf : feK S P S.length with
  | none => rw [hf] at hE; exact absurd hE (by decide)
  | some es => exact ⟨es, rfl, by unfold feL; rw [if_pos h, hf]; rfl⟩
theorem feE_cases {S P : List Int} (h : prizesB S P = true) : (∃ es, feK S P S.length = some es ∧ feL S P = es ∧ feE S P = 0) ∨ (feK S P S.length = none ∧ feL S P = [] ∧ feE S P = 3) := by
  unfold feE feL
  rw [if_pos h, if_pos h]
  cases hf : feK S P S.length with
  | none => exact .inr ⟨rfl, rfl, rfl⟩
  | some es => exact .inl ⟨es, rfl, rfl, rfl⟩
theorem smallL {l : List Int} {B : Int} (hB : B ≤ 1000000) (h : ∀ x ∈ l, 0 ≤ x ∧ x ≤ B) : Hid (∀ x ∈ l, -4000000000 ≤ x ∧ x ≤ 4000000000) := Lib.hid (fun x hx => by have := h x hx; omega)
set_option maxRecDepth 100000 in
set_option maxHeartbeats 4000000 in
theorem impl_dealDifferences_c (A : Option Addr) (n c : Nat) (S : List Int) (B : Option Addr) (m d : Nat) (P : List Int) (C : Option Addr) (l f : Nat) (D : List Int) (w : World) (hn : S.length = n) (hm : n ≤ 1048576) (hr : RI w A S) (hn' : P.length = m) (hm' : m ≤ 1048576) (hr' : RI w B P) (hn3 : D.length = l) (hm3 : l ≤ 1048576) (hr3 : RI w C D) (hmd : m ≤ d) :
    Calls Try.prog 90 #[.slice A n c, .slice B m d, .slice C l f] w (DD w (ddA S P D) (ddB S P D) (dwE S P D)) := by
  have HN := Lib.hid hn
  have HN' := Lib.hid hn'
  have HN3 := Lib.hid hn3
  cases h1 : prizesB S P
  · have hE : deB S P D = 1 := by simp [deB, h1]
    have HV := Lib.hid (dd_code (S := S) (P := P) (D := D) (by rw [hE]; decide))
    have HE := Lib.hid hE
    clear hn hn' hn3 hE
    go_enter Try.func90, Try.ntmps90
    go_wp2_with fail
    refine (impl_ArePrizes_b _ _ _ S _ _ _ P _ HN.out hm hr HN'.out hm' hr').mono ?_
    rintro e w1 ⟨rfl, b1⟩
    rw [h1]
    clear h1
    go_wp2_with fail
    go_ret3
    rw [HV.out.1, HV.out.2.1, HV.out.2.2, HE.out]
    exact ⟨none, 0, 0, none, 0, 0, rfl, Lib.hid rfl, Lib.hid rfl, OQ.nil _ _ _ _, OQ.nil _ _ _ _, b1⟩
  by_cases h2 : l = n ∧ allIn D 0 1000000 = true
  · obtain ⟨h2a, h2b⟩ := h2
    have hD := allIn_iff.1 h2b
    have hbD := smallL (by decide) hD
    have hbP := smallL (by decide) (prizesB_iff.1 h1).2.2.2.1
    have hln : ((l : Int) == (n : Int)) = true := by simp [h2a]
    by_cases h3 : sumL D = sumL P
    · have h0 : deB S P D = 0 := by unfold deB; rw [if_pos h1, if_pos ⟨by omega, h2b⟩, if_pos h3]
      have H0 := Lib.hid h0
      have H1 := Lib.hid h1
      have H3 := Lib.hid h3
      have n5 : n ≤ 5 := by rw [← hn]; exact (fieldB_iff.1 (prizesB_iff.1 h1).1).2.1
      subst h2a
      clear hn hn' hn3 h0 h3
      go_enter Try.func90, Try.ntmps90
      go_wp2_with fail
      refine (impl_ArePrizes_b _ _ _ S _ _ _ P _ HN.out hm hr HN'.out hm' hr').mono ?_
      rintro e w0 ⟨rfl, b0⟩
      rw [h1]
      clear h1
      have B0 := Lib.hid b0
      have rD0 := Lib.hid (hr3.below b0)
      have rP0 := Lib.hid (hr'.below b0)
      have rS0 := Lib.hid (hr.below b0)
      clear b0
      go_wp2_with (first
        | (go_at_call 95; (with_reducible refine (impl_allWithin_c _ _ _ D _ _ _ HN3.out (by omega) rD0.out).mono ?_); rintro e w' ⟨rfl, rfl⟩; rw [h2b])
        | (go_at_call 87; first | ((with_reducible refine (impl_sumOf_c _ _ _ D _ HN3.out (by omega) rD0.out hbD).mono ?_); rintro e w' ⟨rfl, rfl⟩; rw [H3.out]) | ((with_reducible refine (impl_sumOf_c _ _ _ P _ HN'.out (by omega) rP0.out hbP).mono ?_); rintro e w' ⟨rfl, rfl⟩)))
      refine (impl_fieldEquities_c A l c S B m d P _ HN.out rS0.out HN'.out rP0.out hmd H1.out).mono ?_
      rintro e w1 ⟨G, l1, c1, rfl, hl1, hm1, ho1, b1⟩
      have B1 := Lib.hid (below_step B0.out b1 B0.out.size)
      have OE := Lib.hid (ho1.widen (lo' := w.heap.size) (hi' := w1.heap.size) B0.out.size (Nat.le_refl _))
      clear b1 ho1 B0 rD0 rP0 rS0
      rcases feE_cases H1.out with ⟨es, hfe, hL, hE⟩ | ⟨hfe, hL, hE⟩
      · rw [hE]
        rw [hL] at hl1 OE
        have HFE := Lib.hid hfe
        have lenE := feK_len hfe
        obtain rfl : l1 = l := by have := hl1.out; have := HN.out; omega
        have GOOD := Lib.hid (feK_good H1.out (Nat.le_refl _) hfe)
        have HL1 := hl1
        clear hE hL hfe lenE h2b hl1
        have rE := Lib.hid OE.out.ri
        rcases rE.out.split with hz | ⟨ge, rfl, hge, hce⟩
        · exfalso; have := HL1.out; have := (fieldB_iff.1 (prizesB_iff.1 H1.out).1).1; have := HN.out; omega
        rcases hr3.split with hz | ⟨bd, od, rfl, hbd, hcd⟩
        · exfalso; have := HN3.out; have := (fieldB_iff.1 (prizesB_iff.1 H1.out).1).1; have := HN.out; omega
        go_wp2_with fail
        go_loopw [11, 49] (fun t u wr => ∃ (k c' : Nat) (G : Option Addr) (ds : List (Int × Int)), t = .slice G k c' ∧ u = .int .i64 k ∧ k ≤ l1 ∧ Hid (dfK es D k = some ds) ∧ Hid (RowQ wr w1.heap.size G k c' ds) ∧ Hid (Below w1.heap.size w1 wr)) (fun _ u _ => l1 - (intOf u).toNat)
        case atStart => exact ⟨0, 0, none, [], rfl, rfl, Nat.zero_le _, Lib.hid rfl, Lib.hid (RowQ.nil _ _), Lib.hid (Below.refl _ _)⟩
        case round =>
          obtain ⟨k, c', G2, ds, rfl, rfl, hk, hdf, hrow, hbw⟩ := hrel
          by_cases hlt : k < l1
          · have i1 : (k : Int) < (l1 : Int) := by omega
            have i2 : (0 : Int) ≤ (k : Int) := by omega
            obtain ⟨x, y, hxy⟩ := get_q (qs := es) (k := k) (by rw [HL1.out]; exact hlt)
            obtain ⟨z, hz⟩ := get_some (zs := D) (k := k) (by rw [HN3.out]; exact hlt)
            obtain ⟨z0, z1⟩ := hD z (List.mem_of_getElem? hz)
            have hxq := getQ_some hxy
            obtain ⟨g0, g1⟩ := GOOD.out k (by rw [HN.out]; exact hlt)
            rw [hxq] at g0 g1
            have HXY := Lib.hid (show dfK es D (k + 1) = (ratQ (z * y - x) y).map fun q => ds ++ [q] by
              simp only [dfK]
              rw [hdf.out, hxq, show D.getD k 0 = z by simp [List.getD, hz]]
              rfl)
            have HG1 := Lib.hid g1
            have HZ1 := Lib.hid (show isR z 1 = true from okQ_whole (n := z) (by omega) (by omega))
            obtain ⟨p0, p1⟩ := hce.out k x y hxy
            have e0 := (hbw.out.cell (p := ⟨ge, k * 2, none⟩) hge).trans p0
            have e1 := (hbw.out.cell (p := ⟨ge, k * 2 + 1, none⟩) hge).trans p1
            have e2 := (hbw.out.cell (p := ⟨bd, od + k, none⟩) (Nat.lt_of_lt_of_le hbd B1.out.size)).trans ((B1.out.cell (p := ⟨bd, od + k, none⟩) hbd).trans (hcd.out k z hz))
            have bdl : bd < wr.heap.size := Nat.lt_of_lt_of_le (Nat.lt_of_lt_of_le hbd B1.out.size) hbw.out.size
            clear hz hxy hxq g1 p0 p1
            go_upto_region 14 with (fail)
            have e3 : (wr.alloc (.cells #[.int .i64 x, .int .i64 y] 48)).cell? ⟨bd, od + k, none⟩ = some (.int .i64 z) := ((below_al wr _).cell (p := ⟨bd, od + k, none⟩) bdl).trans e2
            have hbx := Lib.hid (below_step hbw.out (below_al wr (.cells #[.int .i64 x, .int .i64 y] 48)) hbw.out.size)
            have RX := Lib.hid (R2.new wr x y)
            have hrowx := Lib.hid (hrow.out.alloc (.cells #[.int .i64 x, .int .i64 y] 48))
            obtain ⟨wx, hwx⟩ : ∃ wx : World, wx = (wr.alloc (.cells #[.int .i64 x, .int .i64 y] 48)) := ⟨_, rfl⟩
            obtain ⟨gx, hgx⟩ : ∃ gx : Nat, gx = wr.heap.size := ⟨_, rfl⟩
            rw [← hwx, ← hgx]
            rw [← hwx] at e3 hbx hrowx
            rw [← hwx, ← hgx] at RX
            have bdx : bd < wx.heap.size := by rw [hwx]; exact Nat.lt_of_lt_of_le bdl (by simp)
            clear hwx hgx e0 e1 e2
            obtain ⟨q0, q1, -, -⟩ := RX.out.cells
            have gxl := RX.out.lt
            have hbn := hbx.out.size
            go_cut [14, 15] (fun s14 s15 wc => ∃ gm : Nat, s14 = .pointer (some ⟨gm, 0, none⟩) ∧ s15 = .int .i64 (redE (z * y - x) y) ∧ Hid (R2 wc gm (redN (z * y - x) y) (redD (z * y - x) y)) ∧ Hid (Below wx.heap.size wx wc) ∧ wx.heap.size ≤ gm)
            case first =>
              have mk : ∀ w' : World, Below wx.heap.size wx w' → w'.cell? ⟨bd, od + k, none⟩ = some (.int .i64 z) ∧ w'.cell? ⟨gx, 0, none⟩ = some (.int .i64 x) ∧ w'.cell? ⟨gx, 1, none⟩ = some (.int .i64 y) ∧ Below wx.heap.size wx w' := fun w' hB => ⟨(hB.cell (p := ⟨bd, od + k, none⟩) bdx).trans e3, (hB.cell (p := ⟨gx, 0, none⟩) gxl).trans q0, (hB.cell (p := ⟨gx, 1, none⟩) gxl).trans q1, hB⟩
              have MK := Lib.hid mk
              have HRX := Lib.hid (R2.new wx 0 0)
              clear mk
              go_wp2_with fail
              go_region_held3 (fun w' => w'.cell? ⟨bd, od + k, none⟩ = some (.int .i64 z) ∧ w'.cell? ⟨gx, 0, none⟩ = some (.int .i64 x) ∧ w'.cell? ⟨gx, 1, none⟩ = some (.int .i64 y) ∧ Below wx.heap.size wx w')
                ((first
                  | exact MK.out _ (Below.refl _ _).drew
                  | exact MK.out _ (bel_al (Below.refl _ _) _).drew
                  | exact MK.out _ (bel_al (fourth (by assumption)) _)
                  | exact MK.out _ B2
                  | exact MK.out _ (bel_al B2 _)
                  | exact MK.out _ (fourth (by assumption))
                  | exact MK.out _ (bel_two B2 (by first | exact Nat.le_refl _ | exact B2.size) (by first | exact Nat.le_refl _ | exact B2.size))))
                ((first
                  | (go_at_call 150; refine (impl_SubtractRatios_c _ _ _ _ _ HZ1.out HG1.out).mono ?_; rintro e w2 ⟨rfl, b2⟩; have B2 : Below wx.heap.size wx w2 := (by first | exact bel_st (w := wx.drew) (Below.refl _ _).drew b2 | exact bel_st (w := (wx.alloc (.cells #[.int .i64 0, .int .i64 0] 48)).drew) (bel_al (Below.refl _ _) _).drew b2); (try (have Q2 : R2 w2 wx.heap.size 0 0 := R2.below (w := (wx.alloc (.cells #[.int .i64 0, .int .i64 0] 48)).drew) (R2.drew HRX.out) b2; obtain ⟨q0, q1, f0, f1⟩ := Q2.cells)))))
              all_goals
                go_wp2_with fail
                go_meet
                first
                  | exact ⟨w2.heap.size, rfl, rfl, Lib.hid (R2.new w2 _ _), Lib.hid (bel_al B2 _), B2.size⟩
                  | exact ⟨wx.heap.size, rfl, rfl, Lib.hid Q2.store, Lib.hid (bel_two B2 (Nat.le_refl _) (Nat.le_refl _)), Nat.le_refl _⟩
            case rest =>
              obtain ⟨gm, rfl, rfl, hgm, hbc, hgml⟩ := hcut
              obtain ⟨w3, rfl⟩ : ∃ w3 : World, w3 = wc := ⟨_, rfl⟩
              have B3 := Lib.hid (below_step hbx.out hbc.out hbx.out.size)
              have row3 := Lib.hid (hrowx.out.below hbc.out)
              have sz3 := B3.out.size
              clear e3 q0 q1 hbc hrowx hbx
              rcases red_cases (z * y - x) y with ⟨he, hq⟩ | ⟨he, hN0, hD0, hq⟩
              · rw [he]
                obtain ⟨N, hN⟩ : ∃ N, redN (z * y - x) y = N := ⟨_, rfl⟩
                obtain ⟨Dn, hDn⟩ : ∃ Dn, redD (z * y - x) y = Dn := ⟨_, rfl⟩
                rw [hN, hDn] at hgm hq
                have HK := Lib.hid (show dfK es D (k + 1) = some (ds ++ [(N, Dn)]) by rw [HXY.out, hq]; rfl)
                have row4 := Lib.hid (row3.out.alloc (.cells #[.int .i64 N, .int .i64 Dn] 48))
                clear he hq hN hDn
                obtain ⟨m0, m1, -, -⟩ := hgm.out.cells
                go_wp2_with (at_builtin; refine wpList_appendQ rfl _ _ rfl w1.heap.size G2 k c' ds rfl row4.out w3.heap.size 1 N Dn rfl (by simp) (by simp) (by omega) (by simp; omega) ?_; intro g5 c5 w5 hr5 hb5 hg5; have HR5 := Lib.hid hr5; have HB5 := Lib.hid ((B3.out.alloc sz3 (.cells #[.int .i64 N, .int .i64 Dn] 48)).trans hb5); clear hr5 hb5 hg5)
                go_roundw
                case rel => exact ⟨k + 1, c5, _, _, rfl, by go_num, by omega, HK, HR5, HB5⟩
                case measure => simp [intOf]; omega
              · rw [he]
                have HV := Lib.hid (dd_none (S := S) (P := P) (D := D) H0.out (by
                  unfold dwQ
                  rw [HFE.out]
                  show (dfK es D S.length).map _ = none
                  rw [dfK_none (k := k + 1) (by rw [HXY.out, hq]; rfl) (by rw [HN.out]; omega)]
                  rfl))
                clear he hN0 hD0 hq
                go_wp2_with fail
                go_ret3
                rw [HV.out.1, HV.out.2.1, HV.out.2.2]
                exact ⟨none, 0, 0, none, 0, 0, rfl, Lib.hid rfl, Lib.hid rfl, OQ.nil _ _ _ _, OQ.nil _ _ _ _, below_step B1.out B3.out B1.out.size⟩
          · have HV := Lib.hid (dd_some (S := S) (P := P) (D := D) (es := es) (ds := ds) H0.out (by
              have hke : k = S.length := by rw [HN.out]; omega
              unfold dwQ
              rw [HFE.out]
              show (dfK es D S.length).map _ = _
              rw [← hke, hdf.out]
              rfl))
            have sz1 := B1.out.size
            have szr := hbw.out.size
            go_wp2_with fail
            go_ret3
            rw [HV.out.1, HV.out.2.1, HV.out.2.2]
            exact ⟨_, _, _, _, _, _, rfl, HL1, Lib.hid hrow.out.length, (OE.out.below hbw.out).widen (Nat.le_refl _) szr, hrow.out.oq.widen sz1 (Nat.le_refl _), below_step B1.out hbw.out sz1⟩
      · rw [hE]
        have HV := Lib.hid (dd_none (S := S) (P := P) (D := D) H0.out (by unfold dwQ; rw [hfe]; rfl))
        clear hE hL hfe h2b
        go_wp2_with fail
        go_ret3
        rw [HV.out.1, HV.out.2.1, HV.out.2.2]
        exact ⟨none, 0, 0, none, 0, 0, rfl, Lib.hid rfl, Lib.hid rfl, OQ.nil _ _ _ _, OQ.nil _ _ _ _, B1.out⟩
    · have hE : deB S P D = 5 := by unfold deB; rw [if_pos h1, if_pos ⟨by omega, h2b⟩, if_neg h3]
      have HV := Lib.hid (dd_code (S := S) (P := P) (D := D) (by rw [hE]; decide))
      have HE := Lib.hid hE
      have hne : (sumL D == sumL P) = false := by simp [h3]
      subst h2a
      clear hn hn' hn3 hE
      go_enter Try.func90, Try.ntmps90
      go_wp2_with fail
      refine (impl_ArePrizes_b _ _ _ S _ _ _ P _ HN.out hm hr HN'.out hm' hr').mono ?_
      rintro e w0 ⟨rfl, b0⟩
      rw [h1]
      clear h1
      have B0 := Lib.hid b0
      have rD0 := Lib.hid (hr3.below b0)
      have rP0 := Lib.hid (hr'.below b0)
      clear b0
      go_wp2_with (first
        | (go_at_call 95; (with_reducible refine (impl_allWithin_c _ _ _ D _ _ _ HN3.out (by omega) rD0.out).mono ?_); rintro e w' ⟨rfl, rfl⟩; rw [h2b])
        | (go_at_call 87; first | ((with_reducible refine (impl_sumOf_c _ _ _ D _ HN3.out (by omega) rD0.out hbD).mono ?_); rintro e w' ⟨rfl, rfl⟩) | ((with_reducible refine (impl_sumOf_c _ _ _ P _ HN'.out (by omega) rP0.out hbP).mono ?_); rintro e w' ⟨rfl, rfl⟩)))
      go_ret3
      rw [HV.out.1, HV.out.2.1, HV.out.2.2, HE.out]
      exact ⟨none, 0, 0, none, 0, 0, rfl, Lib.hid rfl, Lib.hid rfl, OQ.nil _ _ _ _, OQ.nil _ _ _ _, B0.out⟩
  · have hE : deB S P D = 2 := by unfold deB; rw [if_pos h1, if_neg (fun h => h2 ⟨by omega, h.2⟩)]
    have HV := Lib.hid (dd_code (S := S) (P := P) (D := D) (by rw [hE]; decide))
    have HE := Lib.hid hE
    clear hE
    by_cases h2a : l = n
    · have hln : ((l : Int) == (n : Int)) = true := by simp [h2a]
      have h2b : allIn D 0 1000000 = false := by cases h : allIn D 0 1000000 with | false => rfl | true => exact absurd ⟨h2a, h⟩ h2
      subst h2a
      clear hn hn' hn3 h2
      go_enter Try.func90, Try.ntmps90
      go_wp2_with fail
      refine (impl_ArePrizes_b _ _ _ S _ _ _ P _ HN.out hm hr HN'.out hm' hr').mono ?_
      rintro e w0 ⟨rfl, b0⟩
      rw [h1]
      clear h1
      have B0 := Lib.hid b0
      have rD0 := Lib.hid (hr3.below b0)
      clear b0
      go_wp2_with (go_at_call 95; (with_reducible refine (impl_allWithin_c _ _ _ D _ _ _ HN3.out (by omega) rD0.out).mono ?_); rintro e w' ⟨rfl, rfl⟩; rw [h2b])
      go_ret3
      rw [HV.out.1, HV.out.2.1, HV.out.2.2, HE.out]
      exact ⟨none, 0, 0, none, 0, 0, rfl, Lib.hid rfl, Lib.hid rfl, OQ.nil _ _ _ _, OQ.nil _ _ _ _, B0.out⟩
    · have hln : ((l : Int) != (n : Int)) = true := by simp; omega
      clear hn hn' hn3 h2 h2a
      go_enter Try.func90, Try.ntmps90
      go_wp2_with fail
      refine (impl_ArePrizes_b _ _ _ S _ _ _ P _ HN.out hm hr HN'.out hm' hr').mono ?_
      rintro e w0 ⟨rfl, b0⟩
      rw [h1]
      clear h1
      go_wp2_with fail
      go_ret3
      rw [HV.out.1, HV.out.2.1, HV.out.2.2, HE.out]
      exact ⟨none, 0, 0, none, 0, 0, rfl, Lib.hid rfl, Lib.hid rfl, OQ.nil _ _ _ _, OQ.nil _ _ _ _, b0⟩
end Go.Proofs.Ythpgkngkmmameaa
