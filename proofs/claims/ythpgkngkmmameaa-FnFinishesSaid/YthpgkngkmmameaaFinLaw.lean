/-
  What FnFinishes asks: eliminations give finishes; prizes won add up to the prize pool. No program stands here but value functions.
-/
import Derived.Test.YthpgkngkmmameaaWonLaw
import Derived.Test.YthpgkngkmmameaaDrawFin
import Derived.Test.YthpgkngkmmameaaWonSpec
namespace Go.Proofs.Ythpgkngkmmameaa
open Go.RowKit
set_option linter.unusedVariables false
def cR (n : Nat) (P : Nat → Bool) : Nat := ((List.range n).filter P).length
def b2n (b : Bool) : Nat := if b then 1 else 0
theorem cR_succ (n : Nat) (P : Nat → Bool) : cR (n + 1) P = cR n P + b2n (P n) := by
  unfold cR b2n
  rw [List.range_succ, List.filter_append, List.length_append]
  cases h : P n <;> simp [h]
theorem cR_congr {n : Nat} {P Q : Nat → Bool} (h : ∀ i, i < n → P i = Q i) : cR n P = cR n Q := by
  unfold cR
  rw [List.filter_congr (fun i hi => h i (List.mem_range.1 hi))]
theorem cR_upd {P Q : Nat → Bool} {x : Nat} (h : ∀ i, i ≠ x → Q i = P i) : ∀ n, x < n → cR n Q + b2n (P x) = cR n P + b2n (Q x)
  | 0, hx => absurd hx (Nat.not_lt_zero _)
  | n + 1, hx => by
    rw [cR_succ, cR_succ]
    by_cases hxn : x = n
    · subst hxn
      rw [cR_congr (fun i hi => h i (by omega))]
      omega
    · have := cR_upd h n (by omega)
      rw [h n (fun e => hxn e.symm)]
      omega
theorem cR_zero {n : Nat} {P : Nat → Bool} (h : ∀ i, i < n → P i = false) : cR n P = 0 := by
  unfold cR
  rw [List.filter_eq_nil_iff.2 (fun i hi => by rw [h i (List.mem_range.1 hi)]; simp)]
  rfl
theorem cR_split {n : Nat} {P Q R : Nat → Bool} (h : ∀ i, i < n → b2n (P i) = b2n (Q i) + b2n (R i)) : cR n P = cR n Q + cR n R := by
  induction n with
  | zero => rfl
  | succ n ih =>
    rw [cR_succ, cR_succ, cR_succ, ih (fun i hi => h i (by omega)), h n (by omega)]
    omega
theorem cnt_range (fs : List Int) (v : Int) : cntL fs v = cR fs.length (fun i => decide (fs.getD i 0 < v)) := by
  have e : fs = (List.range fs.length).map fun i => fs.getD i 0 := by
    apply List.ext_getElem?
    intro i
    by_cases hi : i < fs.length
    · rw [get_getD hi]; simp [hi]
    · rw [List.getElem?_eq_none (by omega), List.getElem?_eq_none (by simp; omega)]
  unfold cntL cR
  rw [show (fs.filter fun y => decide (y < v)).length = (((List.range fs.length).map fun i => fs.getD i 0).filter fun y => decide (y < v)).length by rw [← e], List.filter_map, List.length_map]
  rfl
/-- Who is not gone; who is gone and stands below v. -/
def cU (n : Nat) (b : List Bool) : Nat := cR n fun i => !(b.getD i false)
def cV (n : Nat) (f : List Int) (b : List Bool) (v : Int) : Nat := cR n fun i => b.getD i false && decide (f.getD i 0 < v)
theorem bset_same {l : List Bool} {i : Nat} (h : i < l.length) (v : Bool) : (l.set i v).getD i false = v := by simp [List.getD, h]
theorem bset_ne {l : List Bool} {i j : Nat} (h : i ≠ j) (v : Bool) : (l.set i v).getD j false = l.getD j false := by simp [List.getD, List.getElem?_set_ne h]
/-- The state behind j entries of a group. -/
structure Mid (n : Nat) (L' : Int) (f : List Int) (b : List Bool) (j : Nat) (f' : List Int) (b' : List Bool) : Prop where
  lf : f'.length = n
  lb : b'.length = n
  u : cU n b' + j = cU n b
  v : ∀ v, cV n f' b' v = cV n f b v + if L' < v then j else 0
  old : ∀ i, b.getD i false = true → b'.getD i false = true ∧ f'.getD i 0 = f.getD i 0
  new : ∀ i, b'.getD i false = true → b.getD i false = true ∨ f'.getD i 0 = L'
  non : ∀ i, b'.getD i false = false → b.getD i false = false ∧ f'.getD i 0 = f.getD i 0
theorem mid_step {n : Nat} {L' : Int} {f f' : List Int} {b b' : List Bool} {j x : Nat} (h : Mid n L' f b j f' b') (hx : x < n) (hb : b'.getD x false = false) : Mid n L' f b (j + 1) (f'.set x L') (b'.set x true) := by
  have lf := h.lf
  have lb := h.lb
  obtain ⟨nb, nf⟩ := h.non x hb
  refine ⟨by rw [List.length_set]; exact lf, by rw [List.length_set]; exact lb, ?_, fun v => ?_, fun i hi => ?_, fun i hi => ?_, fun i hi => ?_⟩
  · have := cR_upd (P := fun i => !(b'.getD i false)) (Q := fun i => !((b'.set x true).getD i false)) (x := x) (fun i hi => by simp only [bset_ne (fun e => hi e.symm)]) n hx
    simp only [bset_same (show x < b'.length by omega), hb] at this
    have hu := h.u
    unfold cU at hu ⊢
    simp only [show b2n (!false) = 1 from rfl, show b2n (!true) = 0 from rfl] at this
    omega
  · have := cR_upd (P := fun i => b'.getD i false && decide (f'.getD i 0 < v)) (Q := fun i => (b'.set x true).getD i false && decide ((f'.set x L').getD i 0 < v)) (x := x) (fun i hi => by simp only [bset_ne (fun e => hi e.symm), getD_set_ne (fun e => hi e.symm)]) n hx
    simp only [bset_same (show x < b'.length by omega), getD_set_same (show x < f'.length by omega), hb, Bool.false_and, Bool.true_and, show b2n false = 0 from rfl] at this
    have hv := h.v v
    unfold cV at hv ⊢
    by_cases hl : L' < v
    · rw [if_pos hl] at hv ⊢
      rw [decide_eq_true hl, show b2n true = 1 from rfl] at this
      omega
    · rw [if_neg hl] at hv ⊢
      rw [decide_eq_false hl, show b2n false = 0 from rfl] at this
      omega
  · have hne : x ≠ i := fun e => by subst e; rw [nb] at hi; cases hi
    obtain ⟨a, c⟩ := h.old i hi
    exact ⟨by rw [bset_ne hne]; exact a, by rw [getD_set_ne hne]; exact c⟩
  · by_cases hxi : x = i
    · subst hxi
      exact .inr (getD_set_same (by omega) _)
    · rw [bset_ne hxi] at hi
      rcases h.new i hi with a | a
      · exact .inl a
      · exact .inr (by rw [getD_set_ne hxi]; exact a)
  · by_cases hxi : x = i
    · subst hxi
      rw [bset_same (by omega)] at hi
      cases hi
    · rw [bset_ne hxi] at hi
      obtain ⟨a, c⟩ := h.non i hi
      exact ⟨a, by rw [getD_set_ne hxi]; exact c⟩
theorem mid_all {n : Nat} {L' : Int} {g : List Int} {f : List Int} {b : List Bool} (lf : f.length = n) (lb : b.length = n) : ∀ j t, goneK n g j b = some t → Mid n L' f b j (putK L' g j f) t
  | 0, t, h => by
    injection h with h
    subst h
    exact ⟨lf, lb, rfl, fun v => by simp [putK], fun i hi => ⟨hi, rfl⟩, fun i hi => .inl hi, fun i hi => ⟨hi, rfl⟩⟩
  | j + 1, t, h => by
    simp only [goneK] at h
    cases h1 : goneK n g j b with
    | none => rw [h1] at h; cases h
    | some t1 =>
      rw [h1] at h
      simp only [Option.bind_some] at h
      split at h
      · next hh =>
        injection h with h
        subst h
        obtain ⟨a, c⟩ := inB_iff.1 hh.1
        exact mid_step (mid_all lf lb j t1 h1) (by omega) hh.2
      · cases h
/-- The state behind whole groups. -/
structure Inv (n : Nat) (f : List Int) (b : List Bool) (L : Int) : Prop where
  lf : f.length = n
  lb : b.length = n
  u : (cU n b : Int) = L
  lo : ∀ i, b.getD i false = true → L ≤ f.getD i 0
  non : ∀ i, b.getD i false = false → f.getD i 0 = 0
  v : ∀ i, b.getD i false = true → f.getD i 0 = cU n b + cV n f b (f.getD i 0)
theorem inv_step {n : Nat} {f : List Int} {b t : List Bool} {L : Int} {g : List Int} (h : Inv n f b L) (hg : g ≠ []) (ht : goneK n g g.length b = some t) : Inv n (putK (L - g.length) g g.length f) t (L - g.length) := by
  have m := mid_all (L' := L - g.length) h.lf h.lb g.length t ht
  have hq : 0 < g.length := by
    cases g with
    | nil => exact absurd rfl hg
    | cons a l => simp
  have hu := h.u
  have mu := m.u
  refine ⟨m.lf, m.lb, by omega, fun i hi => ?_, fun i hi => ?_, fun i hi => ?_⟩
  · rcases m.new i hi with a | a
    · have := h.lo i a
      rw [(m.old i a).2]
      omega
    · rw [a]; exact Int.le_refl _
  · obtain ⟨a, c⟩ := m.non i hi
    rw [c, h.non i a]
  · rcases m.new i hi with a | a
    · rw [(m.old i a).2, m.v, if_pos (by have := h.lo i a; omega)]
      have := h.v i a
      push_cast
      omega
    · rw [a, m.v, if_neg (by omega)]
      have hz : cV n f b (L - g.length) = 0 := cR_zero fun k hk => by
        cases hb : b.getD k false with
        | false => rfl
        | true =>
          have := h.lo k hb
          simp only [Bool.true_and]
          exact decide_eq_false (by omega)
      rw [hz]
      push_cast
      omega
theorem inv_zero (n : Nat) : Inv n (List.replicate n 0) (List.replicate n false) n := by
  have hb : ∀ i, (List.replicate n false).getD i false = false := fun i => by
    by_cases h : i < n <;> simp [List.getD, h]
  have hf : ∀ i, (List.replicate n (0 : Int)).getD i 0 = 0 := fun i => by
    by_cases h : i < n <;> simp [List.getD, h]
  refine ⟨by simp, by simp, ?_, fun i hi => absurd hi (by rw [hb]; decide), fun i _ => hf i, fun i hi => absurd hi (by rw [hb]; decide)⟩
  unfold cU cR
  rw [List.filter_eq_self.2 (fun i _ => by rw [hb]; rfl), List.length_range]
theorem inv_all {n : Nat} {rows : List (List Int)} : ∀ k s, foK n rows k = some s → Inv n s.1 s.2.1 s.2.2
  | 0, s, h => by
    injection h with h
    subst h
    simpa using inv_zero n
  | k + 1, s, h => by
    simp only [foK] at h
    cases h1 : foK n rows k with
    | none => rw [h1] at h; cases h
    | some t =>
      rw [h1] at h
      simp only [Option.bind_some, grpS] at h
      split at h
      · cases h
      · next hne =>
        cases h2 : goneK n (rows.getD k []) (rows.getD k []).length t.2.1 with
        | none => rw [h2] at h; cases h
        | some u =>
          rw [h2] at h
          injection h with h
          subst h
          exact inv_step (inv_all k t h1) hne h2
theorem inv_fin {n : Nat} {f : List Int} {b : List Bool} {L : Int} (h : Inv n f b L) (hL : L ≠ 0) : finB f = true := by
  have hu := h.u
  have hpos : 0 < L := by omega
  unfold finB
  rw [List.all_eq_true]
  intro x hx
  obtain ⟨i, hi, rfl⟩ := List.getElem_of_mem hx
  have hlf := h.lf
  have e : f[i] = f.getD i 0 := by simp [List.getD, hi]
  rw [e]
  have hcnt : cntL f (f.getD i 0) = f.getD i 0 := by
    rw [cnt_range, hlf]
    cases hb : b.getD i false with
    | false =>
      rw [h.non i hb]
      rw [cR_zero fun k hk => ?_]
      · rfl
      · cases hk2 : b.getD k false with
        | false => rw [h.non k hk2]; rfl
        | true => have := h.lo k hk2; exact decide_eq_false (by omega)
    | true =>
      have hv := h.v i hb
      have hlo := h.lo i hb
      rw [cR_split (Q := fun k => !(b.getD k false)) (R := fun k => b.getD k false && decide (f.getD k 0 < f.getD i 0)) fun k hk => ?_]
      · unfold cU cV at hv
        push_cast
        omega
      · cases hk2 : b.getD k false with
        | false => rw [h.non k hk2, decide_eq_true (show (0 : Int) < f.getD i 0 by omega)]; rfl
        | true => simp [b2n]
  rw [hcnt]
  simp
theorem fo_fin {N B F G : Int} {S : List Int} {rows : List (List Int)} (h : foE N B F G S rows = 0) : aeB N B F G S (foV N B F G S rows) = true := by
  obtain ⟨hev, h2, h60, hN, hf⟩ := foV_len h
  obtain ⟨n, rfl⟩ : ∃ n : Nat, N = n := ⟨N.toNat, by have := (evB_iff.1 hev).1; omega⟩
  have hfin : finB (foV n B F G S rows) = true := by
    unfold foA at hf
    cases hk : foK n rows rows.length with
    | none => rw [hk] at hf; cases hf
    | some s =>
      rw [hk] at hf
      simp only [Option.bind_some] at hf
      split at hf
      · cases hf
      · next hL =>
        injection hf with hf
        rw [← hf]
        exact inv_fin (inv_all _ s hk) hL
  unfold aeB
  rw [hev, hfin]
  simp [hN]
theorem ae_no {N B F G : Int} {S fs : List Int} (h : ¬ pwE N B F G S fs = 0) : aeB N B F G S fs = false := by
  unfold aeB
  unfold pwE at h
  by_cases hh : evB N B F G S = true
  · rw [if_pos hh] at h
    by_cases hf : ((fs.length : Int) == N && finB fs) = true
    · rw [if_pos hf] at h; exact absurd rfl h
    · rw [Bool.eq_false_iff.2 hf]; simp
  · rw [Bool.eq_false_iff.2 hh]; rfl
/-- What the prizes won bear. -/
theorem pw_law {N B F G : Int} {S fs : List Int} (h : pwE N B F G S fs = 0) : aeB N B F G S fs = true ∧ evB N B F G S = true ∧ (pwV N B F G S fs).length = fs.length ∧ fs.length ≤ 60 ∧ sumL (pwV N B F G S fs) = ppA N B F G S ∧ Hid (∀ x ∈ pwV N B F G S fs, -4000000000 ≤ x ∧ x ≤ 4000000000) ∧
    ∀ (i k : Nat) (x y p q : Int), (pwV N B F G S fs)[i]? = some x → (pwV N B F G S fs)[k]? = some y → fs[i]? = some p → fs[k]? = some q → p < q → ¬ x < y := by
  have hev : evB N B F G S = true := by
    by_cases hh : evB N B F G S = true
    · exact hh
    · unfold pwE at h; rw [if_neg hh] at h; exact absurd h (by decide)
  have hf : ((fs.length : Int) == N && finB fs) = true := by
    by_cases hf : ((fs.length : Int) == N && finB fs) = true
    · exact hf
    · unfold pwE at h; rw [if_pos hev, if_neg hf] at h; exact absurd h (by decide)
  have hok := ev_ok hev
  obtain ⟨hN, -, -, -, hS, -, hd, hs⟩ := evB_iff.1 hev
  obtain ⟨hl, hfin⟩ : (fs.length : Int) = N ∧ finB fs = true := by simpa using hf
  obtain ⟨l1, l2, l3⟩ := pay_law hok.q0 hok.q1 hok.n1 hok.s hd hs
  have hV : pwV N B F G S fs = pwL (payL (poolI N B G) S) fs := by unfold pwV; rw [if_pos ⟨hev, hf⟩]
  have hA : ppA N B F G S = poolI N B G := by simp [ppA, hev]
  obtain ⟨pays, hp⟩ : ∃ pays, payL (poolI N B G) S = pays := ⟨_, rfl⟩
  have hpl : pays.length = S.length := by rw [← hp, payL_len]
  rw [hp] at hV l1 l2 l3
  have q1 := hok.q1
  rw [sumD_sumL] at l1
  have hdesc := desc_getD (p := pays) (fun i hi hil => l3 i hi (by omega)) (fun x hx => (l2 x hx).1)
  have hall := won_all (p := pays) hfin (by omega) (fun x hx => (l2 x hx).1) (by omega) (by omega)
  have hlen : (pwL pays fs).length = fs.length := by simp [pwL]
  have hget : ∀ (i : Nat) (x : Int), (pwL pays fs)[i]? = some x → i < fs.length ∧ x = pwI pays fs i := by
    intro i x hx
    have hi := (List.getElem?_eq_some_iff.1 hx).1
    rw [hlen] at hi
    refine ⟨hi, ?_⟩
    have : (pwL pays fs)[i]? = some (pwI pays fs i) := by simp [pwL, hi]
    rw [this] at hx
    injection hx with hx
    exact hx.symm
  refine ⟨by unfold aeB; rw [hev, hf]; rfl, hev, by rw [hV, hlen], by omega, by rw [hV, hA, hall, l1], ?_, ?_⟩
  · rw [hV]
    refine Lib.hid fun x hx => ?_
    obtain ⟨i, hi, rfl⟩ := List.getElem_of_mem hx
    obtain ⟨h1, h2⟩ := hget i _ (List.getElem?_eq_getElem hi)
    have a := pwI_low hdesc h1
    have b := pwI_high hdesc h1
    have nn : ∀ j, 0 ≤ pays.getD j 0 ∧ pays.getD j 0 ≤ 2000000 := fun j => by
      by_cases hj : j < pays.length
      · exact l2 _ (getD_mem hj)
      · rw [show pays.getD j 0 = 0 by simp [List.getD, List.getElem?_eq_none (show pays.length ≤ j by omega)]]; omega
    have c := nn ((fs.getD i 0).toNat + (samN fs (fs.getD i 0) - 1))
    have d := nn (fs.getD i 0).toNat
    omega
  · rw [hV]
    intro i k x y p q hx hy hp' hq' hpq
    obtain ⟨hi, rfl⟩ := hget i x hx
    obtain ⟨hk, rfl⟩ := hget k y hy
    have := won_order hfin hdesc hi hk (by rw [show fs.getD i 0 = p by simp [List.getD, hp'], show fs.getD k 0 = q by simp [List.getD, hq']]; exact hpq)
    omega
end Go.Proofs.Ythpgkngkmmameaa
