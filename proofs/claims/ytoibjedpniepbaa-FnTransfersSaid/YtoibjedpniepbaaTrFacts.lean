/-
  Plain facts on transfers: chips come back, the sum stays; a premium for no chips is nought. No program stands here.
-/
import Derived.Test.YtoibjedpniepbaaRisk
import Derived.Test.YtoibjedpniepbaaWorst
import Derived.Test.YtoibjedpniepbaaDivFacts
namespace Go.Proofs.Ytoibjedpniepbaa
set_option linter.unusedVariables false
theorem sumD_sumL' (l : List Int) : sumD l = sumL l := rfl
theorem sumL_set (l : List Int) (i : Nat) (v : Int) (h : i < l.length) : sumL (l.set i v) = sumL l - l.getD i 0 + v := sumD_set l i v h
theorem set_same {l : List Int} {i : Nat} {x : Int} (h : l[i]? = some x) : l.set i x = l := by
  apply List.ext_getElem?
  intro j
  by_cases hij : i = j
  · subst hij; rw [List.getElem?_set_self (List.getElem?_eq_some_iff.1 h).1, h]
  · rw [List.getElem?_set_ne hij]
theorem tr_back {S : List Int} {f t k : Int} (hF : fieldB S = true) (h : trC S f t k = 0) : trC (trL S f t k) t f k = 0 ∧ trL (trL S f t k) t f k = S ∧ sumL (trL S f t k) = sumL S ∧ fieldB (trL S f t k) = true := by
  have hF' := tr_field hF h
  obtain ⟨i, j, x, y, rfl, rfl, hi, hj, hij, hx, hy, k0, k1, k2, x0, x1, y0, y1, e⟩ := tr_ok hF h
  have hxD : S.getD i 0 = x := by simp [List.getD, hx]
  have hyD : S.getD j 0 = y := by simp [List.getD, hy]
  have gj : ((S.set i (x - k)).set j (y + k)).getD j 0 = y + k := getD_set_same (by simpa using hj) _
  have gi : ((S.set i (x - k)).set j (y + k)).getD i 0 = x - k := by rw [getD_set_ne (by omega), getD_set_same hi]
  have ll : ((S.set i (x - k)).set j (y + k)).length = S.length := by simp
  refine ⟨?_, ?_, ?_, hF'⟩
  · rw [e]
    unfold trC
    rw [ll, if_neg, if_neg]
    · rintro (h1 | h1 | h1)
      · omega
      · rw [show ((j : Int)).toNat = j from rfl, gj] at h1; omega
      · rw [show ((i : Int)).toNat = i from rfl, gi] at h1; omega
    · rintro (h1 | h1 | h1)
      · rw [inB_no] at h1; omega
      · rw [inB_no] at h1; omega
      · omega
  · rw [e]
    show (((S.set i (x - k)).set j (y + k)).set j (((S.set i (x - k)).set j (y + k)).getD j 0 - k)).set i ((((S.set i (x - k)).set j (y + k)).set j (((S.set i (x - k)).set j (y + k)).getD j 0 - k)).getD i 0 + k) = S
    rw [gj, List.set_set]
    have g2 : ((S.set i (x - k)).set j (y + k - k)).getD i 0 = x - k := by rw [getD_set_ne (by omega), getD_set_same hi]
    rw [g2, show y + k - k = y by omega, show x - k + k = x by omega, List.set_comm _ _ (by omega), List.set_set, set_same hx, set_same hy]
  · rw [e, sumL_set _ _ _ (by simpa using hj), sumL_set _ _ _ hi, hxD, getD_set_ne (by omega), hyD]
    omega
theorem tr_zero {S : List Int} {f t : Int} (hF : fieldB S = true) (h : trC S f t 0 = 0) : trL S f t 0 = S := by
  obtain ⟨i, j, x, y, rfl, rfl, hi, hj, hij, hx, hy, k0, k1, k2, x0, x1, y0, y1, e⟩ := tr_ok hF h
  rw [e, show x - 0 = x by omega, show y + 0 = y by omega, set_same hx, set_same hy]
theorem subO_val {a b : Option (Int × Int)} {q : Int × Int} (h : subO a b = some q) (ha : ∀ x, a = some x → okQ x) (hb : ∀ x, b = some x → okQ x) : ∃ x y, a = some x ∧ b = some y ∧ okQ q ∧ rv q = rv x - rv y := by
  unfold subO at h
  cases a with
  | none => simp at h
  | some x =>
    cases b with
    | none => simp at h
    | some y =>
      simp only [Option.bind_some] at h
      have hx := (ha x rfl).pos
      have hy := (hb y rfl).pos
      have hxy : 0 < x.2 * y.2 := Int.mul_pos (by have := (isR_iff.1 (ha x rfl)).2.2.1; omega) (by have := (isR_iff.1 (hb y rfl)).2.2.1; omega)
      obtain ⟨h1, h2⟩ := ratQ_val hxy h
      refine ⟨x, y, rfl, rfl, h1, ?_⟩
      rw [h2]
      unfold rv
      rw [show ((x.1 * y.2 - y.1 * x.2 : Int) : Rat) = (x.1 : Rat) * y.2 - y.1 * x.2 by exact_mod_cast rfl, show ((x.2 * y.2 : Int) : Rat) = (x.2 : Rat) * y.2 by exact_mod_cast rfl, inv_two hx hy]
      have k1 := Rat.mul_inv_cancel (x.2 : Rat) (by grind)
      have k2 := Rat.mul_inv_cancel (y.2 : Rat) (by grind)
      have e : ((x.1 : Rat) * y.2 - y.1 * x.2) * ((x.2 : Rat)⁻¹ * (y.2 : Rat)⁻¹) = (x.1 : Rat) * (x.2 : Rat)⁻¹ * (y.2 * (y.2 : Rat)⁻¹) - y.1 * (y.2 : Rat)⁻¹ * (x.2 * (x.2 : Rat)⁻¹) := by grind
      rw [e, k1, k2]; grind
theorem rv_zero {q : Int × Int} (h : okQ q) (h0 : rv q = 0) : q.1 = 0 := by
  have h1 : okQ ((0 : Int), (1 : Int)) := okQ_whole (by omega) (by omega)
  have e := okQ_uniq h h1 (by rw [h0, rv_whole]; rfl)
  rw [e]
/-- A premium for no chips. -/
theorem rp_zero {S P : List Int} {p o : Int} (h : rpE S P p o 0 = 0) : rpN S P p o 0 = 0 := by
  by_cases hC : rpC S P p o 0 = 0
  · obtain ⟨h1, h2, h3⟩ := rp_yes hC
    have hF := (prizesB_iff.1 h1).1
    unfold rpE at h
    unfold rpN
    rw [if_pos hC] at h ⊢
    obtain ⟨i, j, x, y, -, hpj, -, hj, -⟩ := tr_ok hF h2
    have hp : p.toNat = j := by omega
    unfold rpQ at h ⊢
    rw [tr_zero hF h2, tr_zero hF h3, hp] at h ⊢
    cases hq : subO (subO (icm P S j) (mulO (icm P S j) halfQ)) (mulO (icm P S j) halfQ) with
    | none => rfl
    | some r =>
      have hI : ∀ x, icm P S j = some x → okQ x := fun x hx => (icm_val P S j x (field_posL h1) hj hx).1
      have hM : ∀ x, mulO (icm P S j) halfQ = some x → okQ x := fun x hx => by
        obtain ⟨a, b, -, -, h4, -⟩ := mulO_val hx hI (fun y hy => by injection hy with hy; subst hy; decide)
        exact h4
      have hS : ∀ x, subO (icm P S j) (mulO (icm P S j) halfQ) = some x → okQ x := fun x hx => by
        obtain ⟨a, b, -, -, h4, -⟩ := subO_val hx hI hM
        exact h4
      obtain ⟨a, b, ha, hb, hr, er⟩ := subO_val hq hS hM
      obtain ⟨a', b', ha', hb', hr', er'⟩ := subO_val ha hI hM
      rw [hb] at hb'
      injection hb' with hb'
      subst hb'
      obtain ⟨u, v, hu, hv, hr3, er3⟩ := mulO_val hb hI (fun y hy => by injection hy with hy; subst hy; decide)
      rw [ha'] at hu
      injection hu with hu
      subst hu
      injection hv with hv
      subst hv
      refine rv_zero hr ?_
      have e2 : rv ((1 : Int), (2 : Int)) = (2 : Rat)⁻¹ := by
        unfold rv
        rw [show (((1 : Int), (2 : Int)).1 : Rat) = 1 from rfl, show (((1 : Int), (2 : Int)).2 : Rat) = 2 from rfl, Rat.one_mul]
      have e3 : (2 : Rat) * (2 : Rat)⁻¹ = 1 := Rat.mul_inv_cancel _ (by decide)
      rw [er, er', er3, e2]
      have e4 : rv a' - rv a' * (2 : Rat)⁻¹ - rv a' * (2 : Rat)⁻¹ = rv a' - rv a' * (2 * (2 : Rat)⁻¹) := by grind
      rw [e4, e3]
      grind
  · unfold rpN; rw [if_neg hC]
end Go.Proofs.Ytoibjedpniepbaa
