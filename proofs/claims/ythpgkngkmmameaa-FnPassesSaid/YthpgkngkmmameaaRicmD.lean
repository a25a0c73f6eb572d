/-
  What the statements of the chapter ask of the equities. No program stands here.
-/
import Derived.Test.YthpgkngkmmameaaRicmC
namespace Go.Proofs.Ythpgkngkmmameaa
set_option linter.unusedVariables false
theorem rv_cross {a b : Int × Int} (ha : okQ a) (hb : okQ b) : (rv a ≤ rv b ↔ a.1 * b.2 ≤ b.1 * a.2) := by
  have h1 := ha.pos
  have h2 := hb.pos
  have k1 := Rat.mul_inv_cancel (a.2 : Rat) (by grind)
  have k2 := Rat.mul_inv_cancel (b.2 : Rat) (by grind)
  unfold rv
  constructor
  · intro h
    have h3 := le_mul h (Rat.le_of_lt (Rat.mul_pos h1 h2))
    have e1 : (a.2 : Rat) * b.2 * (a.1 * (a.2 : Rat)⁻¹) = a.1 * b.2 * (a.2 * (a.2 : Rat)⁻¹) := by grind
    have e2 : (a.2 : Rat) * b.2 * (b.1 * (b.2 : Rat)⁻¹) = b.1 * a.2 * (b.2 * (b.2 : Rat)⁻¹) := by grind
    rw [e1, e2, k1, k2] at h3
    have h4 : (a.1 : Rat) * b.2 ≤ b.1 * a.2 := by grind
    exact_mod_cast h4
  · intro h
    have h3 : (a.1 : Rat) * b.2 ≤ b.1 * a.2 := by exact_mod_cast h
    exact div_cross h1 h2 h3
theorem okQ_uniq {a b : Int × Int} (ha : okQ a) (hb : okQ b) (h : rv a = rv b) : a = b := by
  have h1 := (rv_cross ha hb).1 (by rw [h]; exact Rat.le_refl)
  have h2 := (rv_cross hb ha).1 (by rw [h]; exact Rat.le_refl)
  have e : a.1 * b.2 = b.1 * a.2 := by omega
  obtain ⟨-, -, a0, -, ag⟩ := isR_iff.1 ha
  obtain ⟨-, -, b0, -, bg⟩ := isR_iff.1 hb
  have co : ∀ {n d : Int}, 1 ≤ d → gcdI (absI n) d = 1 → Nat.Coprime n.natAbs d.natAbs := by
    intro n d hd hg
    unfold gcdI absI at hg
    rw [Int.toNat_natCast, show d.toNat = d.natAbs by omega] at hg
    exact_mod_cast hg
  have ca := co a0 ag
  have cb := co b0 bg
  have en : a.1.natAbs * b.2.natAbs = b.1.natAbs * a.2.natAbs := by rw [← Int.natAbs_mul, ← Int.natAbs_mul, e]
  have d1 : a.2.natAbs ∣ b.2.natAbs := ca.symm.dvd_of_dvd_mul_left ⟨b.1.natAbs, by rw [en, Nat.mul_comm]⟩
  have d2 : b.2.natAbs ∣ a.2.natAbs := cb.symm.dvd_of_dvd_mul_left ⟨a.1.natAbs, by rw [← en, Nat.mul_comm]⟩
  have e2 : a.2 = b.2 := by have := Nat.dvd_antisymm d1 d2; omega
  have e1 : a.1 = b.1 := by
    rw [e2] at e
    exact Int.eq_of_mul_eq_mul_right (by omega) e
  exact Prod.ext e1 e2
theorem rv_whole (n : Int) : rv (n, 1) = n := by
  have h1 := Rat.mul_inv_cancel ((1 : Int) : Rat) (by decide)
  show (n : Rat) * ((1 : Int) : Rat)⁻¹ = n
  rw [show ((1 : Int) : Rat) = 1 from rfl] at h1 ⊢
  grind
theorem okQ_whole {n : Int} (h0 : -1000000000 ≤ n) (h1 : n ≤ 1000000000) : okQ (n, 1) := by
  refine isR_iff.2 ⟨h0, h1, Int.le_refl 1, show (1 : Int) ≤ 1000000000 by decide, ?_⟩
  unfold gcdI
  have : Nat.gcd (absI n).toNat (1 : Int).toNat = 1 := Nat.gcd_one_right _
  rw [this]; rfl
/-- Among equities of one field: the greater stack has no smaller one. -/
theorem icm_order {ps S : List Int} {i k : Nat} {a b : Int × Int} (hp : prizeL ps) (hS : posL S) (hi : i < S.length) (hk : k < S.length) (hik : S.getD k 0 ≤ S.getD i 0) (ha : icm ps S i = some a) (hb : icm ps S k = some b) : b.1 * a.2 ≤ a.1 * b.2 := by
  obtain ⟨a1, a2⟩ := icm_val ps S i a hS hi ha
  obtain ⟨b1, b2⟩ := icm_val ps S k b hS hk hb
  refine (rv_cross b1 a1).1 ?_
  rw [a2, b2]
  by_cases h : i = k
  · subst h; exact Rat.le_refl
  · have perm : ∀ {l : List Int} {m : Nat}, m < l.length → l.Perm (l.getD m 0 :: l.eraseIdx m) := by
      intro l
      induction l with
      | nil => intro m hm; simp at hm
      | cons x l ih =>
        intro m hm
        cases m with
        | zero => exact List.Perm.refl _
        | succ m =>
          rw [List.getD_cons_succ, List.eraseIdx_cons_succ]
          exact ((ih (by simpa using hm)).cons x).trans (List.Perm.swap _ _ _)
    have lt1 : dropTo k i < (S.eraseIdx i).length := by rw [List.length_eraseIdx, if_pos hi]; unfold dropTo; split <;> omega
    have lt2 : dropTo i k < (S.eraseIdx k).length := by rw [List.length_eraseIdx, if_pos hk]; unfold dropTo; split <;> omega
    have p1 := perm lt1
    have p2 := perm lt2
    rw [erase_get (fun e => h e.symm)] at p1
    rw [erase_get h, ← erase_comm (fun e => h e.symm)] at p2
    rw [W_perm ps (S.getD i 0) p1, W_perm ps (S.getD k 0) p2]
    exact W_swap ps _ _ _ hp (hS.get hk) hik ((hS.erase i).erase _)
/-- All of them added up, one after the other. -/
def totQ (t : Nat → Option (Int × Int)) : Nat → Option (Int × Int)
  | 0 => some (0, 1)
  | k + 1 => addO (totQ t k) (t k)
theorem totQ_val {t : Nat → Option (Int × Int)} {f : Nat → Rat} {n : Nat} (ht : ∀ j, j < n → ∀ q, t j = some q → okQ q ∧ rv q = f j) : ∀ k, k ≤ n → ∀ q, totQ t k = some q → okQ q ∧ rv q = sumR (List.range k) f := by
  intro k
  induction k with
  | zero => intro _ q h; injection h with h; subst h; exact ⟨okQ_whole (by decide) (by decide), rv_whole 0⟩
  | succ k ih =>
    intro hk q h
    unfold totQ at h
    obtain ⟨x, y, h1, h2, h3, h4⟩ := addO_val h (fun x hx => (ih (by omega) x hx).1) (fun y hy => (ht k (by omega) y hy).1)
    refine ⟨h3, ?_⟩
    rw [h4, (ih (by omega) x h1).2, (ht k (by omega) y h2).2, List.range_succ, sumR_app, sumR_cons, sumR_nil]; grind
theorem icm_total {ps S : List Int} {q : Int × Int} (hS : posL S) (hl : ps.length ≤ S.length) (h0 : -1000000000 ≤ sumL ps) (h1 : sumL ps ≤ 1000000000) (h : totQ (fun i => icm ps S i) S.length = some q) : q = (sumL ps, 1) := by
  obtain ⟨k1, k2⟩ := totQ_val (f := fun i => W ps (S.getD i 0) (S.eraseIdx i)) (n := S.length) (fun j hj x hx => icm_val ps S j x hS hj hx) S.length (Nat.le_refl _) q h
  refine okQ_uniq k1 (okQ_whole h0 h1) ?_
  rw [k2, rv_whole, sumL_tot, ← W_sum ps S hS hl, picks_range S (fun a r => W ps a r)]
theorem place_total {S : List Int} {i : Nat} {q : Int × Int} (hS : posL S) (hi : i < S.length) (h : totQ (fun k => icm (unitL k) S i) S.length = some q) : q = (1, 1) := by
  obtain ⟨k1, k2⟩ := totQ_val (f := fun k => W (unitL k) (S.getD i 0) (S.eraseIdx i)) (n := S.length) (fun j hj x hx => icm_val (unitL j) S i x hS hi hx) S.length (Nat.le_refl _) q h
  refine okQ_uniq k1 (okQ_whole (by decide) (by decide)) ?_
  rw [k2, rv_whole]
  have := W_unit (S.eraseIdx i).length (S.getD i 0) (S.eraseIdx i) (hS.get hi) (hS.erase i) rfl
  rw [List.length_eraseIdx, if_pos hi, show S.length - 1 + 1 = S.length by omega] at this
  exact this
end Go.Proofs.Ythpgkngkmmameaa
