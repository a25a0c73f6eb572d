/-
  The equity that the program computes is the number. No program stands here.
-/
import Derived.Test.YthpgkngkmmameaaRicmB
namespace Go.Proofs.Ythpgkngkmmameaa
set_option linter.unusedVariables false
def rv (q : Int × Int) : Rat := (q.1 : Rat) * (q.2 : Rat)⁻¹
def okQ (q : Int × Int) : Prop := isR q.1 q.2 = true
theorem okQ.pos {q : Int × Int} (h : okQ q) : (0 : Rat) < q.2 := by
  have := (isR_iff.1 h).2.2.1
  have h2 : 0 < q.2 := by omega
  exact_mod_cast h2
theorem gcd_dvd' {num den : Int} (hd : 0 ≤ den) : gcdI (absI num) den ∣ num ∧ gcdI (absI num) den ∣ den := by
  have ha : ((absI num).toNat : Int) = absI num := by have := absI_nonneg num; omega
  have hb : ((den.toNat : Nat) : Int) = den := by omega
  have h1 : ((Nat.gcd (absI num).toNat den.toNat : Nat) : Int) ∣ absI num := by
    have := Int.natCast_dvd_natCast.2 (Nat.gcd_dvd_left (absI num).toNat den.toNat)
    rwa [ha] at this
  have h2 : ((Nat.gcd (absI num).toNat den.toNat : Nat) : Int) ∣ den := by
    have := Int.natCast_dvd_natCast.2 (Nat.gcd_dvd_right (absI num).toNat den.toNat)
    rwa [hb] at this
  refine ⟨?_, h2⟩
  unfold gcdI
  exact Int.dvd_natAbs.1 h1
theorem ratQ_val {n d : Int} (hd : 0 < d) {q : Int × Int} (h : ratQ n d = some q) : okQ q ∧ rv q = (n : Rat) * (d : Rat)⁻¹ := by
  unfold ratQ redE redN redD at h
  by_cases hi : isR (redP n d) (redQ n d) = true
  · rw [if_pos hi, if_pos rfl, if_pos hi, if_pos hi] at h
    injection h with h
    subst h
    refine ⟨hi, ?_⟩
    have hq : (0 : Rat) < (redQ n d : Int) := okQ.pos (q := (redP n d, redQ n d)) hi
    have hd' : (0 : Rat) < d := by exact_mod_cast hd
    obtain ⟨d1, d2⟩ := gcd_dvd' (num := n) (den := d) (by omega)
    have hg := gcd_pos (a := absI n) (b := d) hd
    have hx : redP n d * d = n * redQ n d := by
      unfold redP redQ
      obtain ⟨p, hp⟩ := d1
      obtain ⟨r, hr⟩ := d2
      generalize gcdI (absI n) d = g at *
      have e1 : n.tdiv g = p := by rw [hp]; exact Int.mul_tdiv_cancel_left _ (by omega)
      have e2 : d / g = r := by rw [hr]; exact Int.mul_ediv_cancel_left _ (by omega)
      rw [e1, e2, hr]
      have : n * r = g * p * r := by rw [← hp]
      rw [this]; grind
    have hx' : ((redP n d : Int) : Rat) * d = n * ((redQ n d : Int) : Rat) := by exact_mod_cast hx
    unfold rv
    simp only
    generalize ((redP n d : Int) : Rat) = a at *
    generalize ((redQ n d : Int) : Rat) = b at *
    have h1 := Rat.mul_inv_cancel b (by grind)
    have h2 := Rat.mul_inv_cancel (d : Rat) (by grind)
    have e1 : a * b⁻¹ = a * d * (b⁻¹ * (d : Rat)⁻¹) := by
      have : a * d * (b⁻¹ * (d : Rat)⁻¹) = a * b⁻¹ * (d * (d : Rat)⁻¹) := by grind
      rw [this, h2]; grind
    have e2 : (n : Rat) * (d : Rat)⁻¹ = n * b * (b⁻¹ * (d : Rat)⁻¹) := by
      have : (n : Rat) * b * (b⁻¹ * (d : Rat)⁻¹) = n * (d : Rat)⁻¹ * (b * b⁻¹) := by grind
      rw [this, h1]; grind
    rw [e1, e2, hx']
  · rw [if_neg hi] at h; simp at h
theorem inv_two {a b : Rat} (ha : 0 < a) (hb : 0 < b) : (a * b)⁻¹ = a⁻¹ * b⁻¹ := by
  have h1 := Rat.mul_inv_cancel a (by grind)
  have h2 := Rat.mul_inv_cancel b (by grind)
  have h0 : 0 < a * b := Rat.mul_pos ha hb
  have h3 := Rat.mul_inv_cancel (a * b) (by grind)
  have e : (a * b)⁻¹ = (a * b)⁻¹ * (a * a⁻¹) * (b * b⁻¹) := by rw [h1, h2]; grind
  rw [e]
  have : (a * b)⁻¹ * (a * a⁻¹) * (b * b⁻¹) = (a * b * (a * b)⁻¹) * (a⁻¹ * b⁻¹) := by grind
  rw [this, h3]; grind
theorem mulO_val {a b : Option (Int × Int)} {q : Int × Int} (h : mulO a b = some q) (ha : ∀ x, a = some x → okQ x) (hb : ∀ x, b = some x → 0 < x.2) : ∃ x y, a = some x ∧ b = some y ∧ okQ q ∧ rv q = rv x * rv y := by
  unfold mulO at h
  cases a with
  | none => simp at h
  | some x =>
    cases b with
    | none => simp at h
    | some y =>
      simp only [Option.bind_some] at h
      have hx := (ha x rfl).pos
      have hy : (0 : Rat) < y.2 := by have := hb y rfl; exact_mod_cast this
      have hxy : 0 < x.2 * y.2 := Int.mul_pos (by have := (isR_iff.1 (ha x rfl)).2.2.1; omega) (hb y rfl)
      obtain ⟨h1, h2⟩ := ratQ_val hxy h
      refine ⟨x, y, rfl, rfl, h1, ?_⟩
      rw [h2]
      unfold rv
      rw [show ((x.1 * y.1 : Int) : Rat) = (x.1 : Rat) * y.1 by exact_mod_cast rfl, show ((x.2 * y.2 : Int) : Rat) = (x.2 : Rat) * y.2 by exact_mod_cast rfl, inv_two hx hy]
      grind
theorem addO_val {a b : Option (Int × Int)} {q : Int × Int} (h : addO a b = some q) (ha : ∀ x, a = some x → okQ x) (hb : ∀ x, b = some x → okQ x) : ∃ x y, a = some x ∧ b = some y ∧ okQ q ∧ rv q = rv x + rv y := by
  unfold addO at h
  cases a with
  | none => simp at h
  | some x =>
    cases b with
    | none => simp at h
    | some y =>
      simp only [Option.bind_some] at h
      have hx := (ha x rfl).pos
      have hy := (hb y rfl).pos
      have hxy : 0 < x.2 * y.2 := Int.mul_pos (by have := (isR_iff.1 (ha x rfl)).2.2.1; omega) (by have := (isR_iff.1 (hb y rfl)).2.2.1; omega)
      obtain ⟨h1, h2⟩ := ratQ_val hxy h
      refine ⟨x, y, rfl, rfl, h1, ?_⟩
      rw [h2]
      unfold rv
      rw [show ((x.1 * y.2 + y.1 * x.2 : Int) : Rat) = (x.1 : Rat) * y.2 + y.1 * x.2 by exact_mod_cast rfl, show ((x.2 * y.2 : Int) : Rat) = (x.2 : Rat) * y.2 by exact_mod_cast rfl, inv_two hx hy]
      have k1 := Rat.mul_inv_cancel (x.2 : Rat) (by grind)
      have k2 := Rat.mul_inv_cancel (y.2 : Rat) (by grind)
      have e : ((x.1 : Rat) * y.2 + y.1 * x.2) * ((x.2 : Rat)⁻¹ * (y.2 : Rat)⁻¹) = (x.1 : Rat) * (x.2 : Rat)⁻¹ * (y.2 * (y.2 : Rat)⁻¹) + y.1 * (y.2 : Rat)⁻¹ * (x.2 * (x.2 : Rat)⁻¹) := by grind
      rw [e, k1, k2]; grind
theorem addO_none (b : Option (Int × Int)) : addO none b = none := rfl
theorem fold_none {α : Type} (t : α → Option (Int × Int)) (L : List α) : L.foldl (fun acc j => addO acc (t j)) none = none := by
  induction L with
  | nil => rfl
  | cons x l ih => rw [List.foldl_cons, addO_none]; exact ih
theorem fold_val {α : Type} (t : α → Option (Int × Int)) (f : α → Rat) (L : List α) (ht : ∀ j ∈ L, ∀ q, t j = some q → okQ q ∧ rv q = f j) : ∀ (e q : Int × Int), okQ e → L.foldl (fun acc j => addO acc (t j)) (some e) = some q → okQ q ∧ rv q = rv e + sumR L f := by
  induction L with
  | nil => intro e q he h; injection h with h; subst h; exact ⟨he, by rw [sumR_nil]; grind⟩
  | cons x l ih =>
    intro e q he h
    rw [List.foldl_cons] at h
    cases hx : addO (some e) (t x) with
    | none => rw [hx, fold_none] at h; cases h
    | some e' =>
      rw [hx] at h
      obtain ⟨a, b, h1, h2, h3, h4⟩ := addO_val hx (fun y hy => by injection hy with hy; subst hy; exact he) (fun y hy => (ht x (by simp) y hy).1)
      injection h1 with h1
      subst h1
      obtain ⟨k1, k2⟩ := ih (fun j hj => ht j (by simp [hj])) e' q h3 h
      refine ⟨k1, ?_⟩
      rw [k2, h4, sumR_cons, (ht x (by simp) b h2).2]; grind
theorem picks_range (R : List Int) : ∀ F : Int → List Int → Rat, sumR (picks R) (fun y => F y.1 y.2) = sumR (List.range R.length) fun m => F (R.getD m 0) (R.eraseIdx m) := by
  induction R with
  | nil => intro F; rfl
  | cons a l ih =>
    intro F
    simp only [picks]
    rw [sumR_cons, sumR_map, List.length_cons, List.range_succ_eq_map, sumR_cons, sumR_map]
    simp only [List.getD_cons_zero, List.getD_cons_succ, List.eraseIdx_cons_zero, List.eraseIdx_cons_succ]
    rw [ih fun b r => F b (a :: r)]
theorem others_map (i : Nat) : ∀ n, i < n → ((List.range n).filter fun j => !(decide (j = i))).map (fun j => dropTo j i) = List.range (n - 1) := by
  have low : ∀ n, n ≤ i → ((List.range n).filter fun j => !(decide (j = i))).map (fun j => dropTo j i) = List.range n := by
    intro n
    induction n with
    | zero => intro _; rfl
    | succ n ih =>
      intro h
      rw [List.range_succ, List.filter_append, List.map_append, ih (by omega), List.filter_cons, List.filter_nil]
      simp [show ¬ n = i by omega, dropTo, show ¬ i < n by omega]
  intro n
  induction n with
  | zero => intro h; omega
  | succ n ih =>
    intro h
    rw [List.range_succ, List.filter_append, List.map_append, List.filter_cons, List.filter_nil]
    by_cases hn : i = n
    · subst hn
      rw [low i (Nat.le_refl _)]; simp
    · rw [ih (by omega)]
      simp [show ¬ n = i by omega, dropTo, show i < n by omega]
      rw [← List.range_succ, show (n - 1).succ = n by omega]
theorem erase_get {S : List Int} {i j : Nat} (h : j ≠ i) : (S.eraseIdx i).getD (dropTo j i) 0 = S.getD j 0 := by
  unfold dropTo
  rw [List.getD, List.getElem?_eraseIdx, List.getD]
  by_cases hij : i < j
  · rw [if_pos hij, if_neg (by omega), show j - 1 + 1 = j by omega]
  · rw [if_neg hij, if_pos (by omega)]
theorem erase_comm {S : List Int} {i j : Nat} (h : j ≠ i) : (S.eraseIdx i).eraseIdx (dropTo j i) = (S.eraseIdx j).eraseIdx (dropTo i j) := by
  apply List.ext_getElem?
  intro m
  unfold dropTo
  rw [List.getElem?_eraseIdx, List.getElem?_eraseIdx, List.getElem?_eraseIdx, List.getElem?_eraseIdx, List.getElem?_eraseIdx, List.getElem?_eraseIdx]
  rcases Nat.lt_or_gt_of_ne h with h1 | h1
  · rw [if_neg (show ¬ i < j by omega), if_pos h1]
    by_cases c1 : m < j
    · rw [if_pos c1, if_pos (by omega), if_pos (by omega), if_pos c1]
    · rw [if_neg c1]
      by_cases c2 : m < i - 1
      · rw [if_pos (by omega), if_pos c2, if_neg c1]
      · rw [if_neg (by omega), if_neg c2, if_neg (by omega)]
  · rw [if_pos h1, if_neg (show ¬ j < i by omega)]
    by_cases c1 : m < i
    · rw [if_pos (by omega), if_pos c1, if_pos c1, if_pos (by omega)]
    · rw [if_neg c1]
      by_cases c2 : m < j - 1
      · rw [if_pos c2, if_neg c1, if_pos (by omega)]
      · rw [if_neg c2, if_neg (by omega), if_neg c1, if_neg (by omega)]
theorem sumL_tot (l : List Int) : ((sumL l : Int) : Rat) = totR l := by
  have h : ∀ (l : List Int) (s : Int), ((l.foldl (· + ·) s : Int) : Rat) = (s : Rat) + totR l := by
    intro l
    induction l with
    | nil => intro s; show (s : Rat) = (s : Rat) + 0; grind
    | cons x l ih =>
      intro s
      rw [List.foldl_cons, ih]
      show ((s + x : Int) : Rat) + totR l = (s : Rat) + ((x : Rat) + totR l)
      rw [show ((s + x : Int) : Rat) = (s : Rat) + x by exact_mod_cast rfl]; grind
  have := h l 0
  unfold sumL
  rw [this, show ((0 : Int) : Rat) = 0 from rfl]; grind
theorem tot_erase {S : List Int} {i : Nat} (h : i < S.length) : totR S = (S.getD i 0 : Rat) + totR (S.eraseIdx i) := by
  induction S generalizing i with
  | nil => simp at h
  | cons a l ih =>
    cases i with
    | zero => rfl
    | succ i =>
      rw [List.getD_cons_succ, List.eraseIdx_cons_succ]
      show (a : Rat) + totR l = _ + ((a : Rat) + totR (l.eraseIdx i))
      rw [ih (by simpa using h)]; grind
theorem posL.erase {S : List Int} (h : posL S) (i : Nat) : posL (S.eraseIdx i) := fun z hz => h z (List.mem_of_mem_eraseIdx hz)
theorem posL.get {S : List Int} (h : posL S) {i : Nat} (hi : i < S.length) : 0 < S.getD i 0 := by
  apply h
  simp [List.getD, List.getElem?_eq_getElem hi]
theorem icm_val : ∀ (ps S : List Int) (i : Nat) (q : Int × Int), posL S → i < S.length → icm ps S i = some q → okQ q ∧ rv q = W ps (S.getD i 0) (S.eraseIdx i) := by
  intro ps
  induction ps with
  | nil => intro S i q _ _ h; simp [icm] at h
  | cons p ps ih =>
    intro S i q hS hi h
    have hT := totR_pos hS (by omega)
    have hTi : 0 < sumL S := by
      have := hT
      rw [← sumL_tot] at this
      exact_mod_cast this
    have hsh : ∀ j x, ratQ (S.getD j 0) (sumL S) = some x → okQ x ∧ rv x = (S.getD j 0 : Rat) * (totR S)⁻¹ := fun j x hx => by
      obtain ⟨h1, h2⟩ := ratQ_val hTi hx
      exact ⟨h1, by rw [h2, sumL_tot]⟩
    have h0 : ∀ e, mulO (ratQ (S.getD i 0) (sumL S)) (some (p, 1)) = some e → okQ e ∧ rv e = (S.getD i 0 : Rat) * p * (totR S)⁻¹ := fun e he => by
      obtain ⟨x, y, h1, h2, h3, h4⟩ := mulO_val he (fun x hx => (hsh i x hx).1) (fun y hy => by injection hy with hy; subst hy; exact Int.one_pos)
      injection h2 with h2
      subst h2
      refine ⟨h3, ?_⟩
      rw [h4, (hsh i x h1).2]
      have : rv (p, 1) = (p : Rat) := by
        show (p : Rat) * ((1 : Int) : Rat)⁻¹ = p
        have h1 := Rat.mul_inv_cancel ((1 : Int) : Rat) (by decide)
        rw [show ((1 : Int) : Rat) = 1 from rfl] at h1 ⊢
        grind
      rw [this]; grind
    have hW : W (p :: ps) (S.getD i 0) (S.eraseIdx i) = (S.getD i 0 : Rat) * p * (totR S)⁻¹ + sumR ((List.range S.length).filter fun j => !(decide (j = i))) fun j => (S.getD j 0 : Rat) * (totR S)⁻¹ * W ps (S.getD i 0) ((S.eraseIdx j).eraseIdx (dropTo i j)) := by
      show ((S.getD i 0 : Rat) * p + sumR (picks (S.eraseIdx i)) fun y => (y.1 : Rat) * W ps (S.getD i 0) y.2) * ((S.getD i 0 : Rat) + totR (S.eraseIdx i))⁻¹ = _
      rw [← tot_erase hi, picks_range (S.eraseIdx i) (fun a r => (a : Rat) * W ps (S.getD i 0) r), List.length_eraseIdx, if_pos hi, ← others_map i _ hi, sumR_map]
      have e : (sumR ((List.range S.length).filter fun j => !(decide (j = i))) fun j => ((S.eraseIdx i).getD (dropTo j i) 0 : Rat) * W ps (S.getD i 0) ((S.eraseIdx i).eraseIdx (dropTo j i)))
          = sumR ((List.range S.length).filter fun j => !(decide (j = i))) fun j => (S.getD j 0 : Rat) * W ps (S.getD i 0) ((S.eraseIdx j).eraseIdx (dropTo i j)) := by
        refine sumR_congr fun j hj => ?_
        have hne : j ≠ i := by have := (List.mem_filter.1 hj).2; simpa using this
        rw [erase_get hne, erase_comm hne]
      rw [e]
      have e2 : (sumR ((List.range S.length).filter fun j => !(decide (j = i))) fun j => (S.getD j 0 : Rat) * (totR S)⁻¹ * W ps (S.getD i 0) ((S.eraseIdx j).eraseIdx (dropTo i j)))
          = (totR S)⁻¹ * sumR ((List.range S.length).filter fun j => !(decide (j = i))) fun j => (S.getD j 0 : Rat) * W ps (S.getD i 0) ((S.eraseIdx j).eraseIdx (dropTo i j)) := by
        rw [← sumR_mul]
        exact sumR_congr fun j _ => by grind
      rw [e2]; grind
    rw [hW]
    unfold icm at h
    by_cases hps : ps = []
    · rw [if_pos hps] at h
      obtain ⟨h1, h2⟩ := h0 q h
      refine ⟨h1, ?_⟩
      rw [h2]
      have : (sumR ((List.range S.length).filter fun j => !(decide (j = i))) fun j => (S.getD j 0 : Rat) * (totR S)⁻¹ * W ps (S.getD i 0) ((S.eraseIdx j).eraseIdx (dropTo i j))) = 0 :=
        (sumR_congr (g := fun _ => (0 : Rat)) fun j _ => by rw [hps]; show _ * (0 : Rat) = 0; grind).trans (sumR_zero _)
      rw [this]; grind
    · rw [if_neg hps] at h
      have hf := foldl_skip (fun j => decide (j = i)) (fun acc j => addO acc (mulO (ratQ (S.getD j 0) (sumL S)) (icm ps (S.eraseIdx j) (dropTo i j)))) (List.range S.length) (mulO (ratQ (S.getD i 0) (sumL S)) (some (p, 1)))
      simp only [decide_eq_true_eq] at hf
      rw [hf] at h
      cases he : mulO (ratQ (S.getD i 0) (sumL S)) (some (p, 1)) with
      | none => rw [he, fold_none] at h; cases h
      | some e =>
        rw [he] at h
        obtain ⟨k1, k2⟩ := h0 e he
        have := fold_val (fun j => mulO (ratQ (S.getD j 0) (sumL S)) (icm ps (S.eraseIdx j) (dropTo i j))) (fun j => (S.getD j 0 : Rat) * (totR S)⁻¹ * W ps (S.getD i 0) ((S.eraseIdx j).eraseIdx (dropTo i j))) _ (fun j hj x hx => by
          have hj' : j < S.length ∧ j ≠ i := by simpa using List.mem_filter.1 hj
          have hd : dropTo i j < (S.eraseIdx j).length := by
            rw [List.length_eraseIdx, if_pos hj'.1]
            unfold dropTo
            split <;> omega
          obtain ⟨a, b, m1, m2, m3, m4⟩ := mulO_val hx (fun y hy => (hsh j y hy).1) (fun y hy => by
            have := (ih (S.eraseIdx j) (dropTo i j) y (hS.erase j) hd hy).1
            have := (isR_iff.1 this).2.2.1
            omega)
          obtain ⟨n1, n2⟩ := ih (S.eraseIdx j) (dropTo i j) b (hS.erase j) hd m2
          refine ⟨m3, ?_⟩
          rw [m4, (hsh j a m1).2, n2, erase_get (fun h => hj'.2 h.symm)]) e q k1 h
        refine ⟨this.1, ?_⟩
        rw [this.2, k2]
end Go.Proofs.Ythpgkngkmmameaa
