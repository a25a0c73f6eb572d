/-
  The equity as a number: its bounds, that it grows with the own stack, that all equities add up to the prizes. No program stands here.
-/
import Derived.Test.YthpgkngkmmameaaPlainIcm
namespace Go.Proofs.Ythpgkngkmmameaa
set_option linter.unusedVariables false
def picks : List Int → List (Int × List Int)
  | [] => []
  | a :: l => (a, l) :: (picks l).map fun x => (x.1, a :: x.2)
/-- The sum of f over a list. -/
def sumR {α : Type} (l : List α) (f : α → Rat) : Rat := l.foldr (fun x s => f x + s) 0
section
variable {α β : Type}
theorem sumR_nil (f : α → Rat) : sumR [] f = 0 := rfl
theorem sumR_cons (a : α) (l : List α) (f : α → Rat) : sumR (a :: l) f = f a + sumR l f := rfl
theorem sumR_app (l m : List α) (f : α → Rat) : sumR (l ++ m) f = sumR l f + sumR m f := by
  induction l with
  | nil => rw [List.nil_append, sumR_nil]; grind
  | cons a l ih => rw [List.cons_append, sumR_cons, sumR_cons, ih]; grind
theorem sumR_map (g : β → α) (l : List β) (f : α → Rat) : sumR (l.map g) f = sumR l fun x => f (g x) := by
  induction l with
  | nil => rfl
  | cons a l ih => rw [List.map_cons, sumR_cons, sumR_cons, ih]
theorem sumR_congr {l : List α} {f g : α → Rat} (h : ∀ x ∈ l, f x = g x) : sumR l f = sumR l g := by
  induction l with
  | nil => rfl
  | cons a l ih => rw [sumR_cons, sumR_cons, h a (by simp), ih (fun x hx => h x (by simp [hx]))]
theorem sumR_le {l : List α} {f g : α → Rat} (h : ∀ x ∈ l, f x ≤ g x) : sumR l f ≤ sumR l g := by
  induction l with
  | nil => exact Rat.le_refl
  | cons a l ih =>
    rw [sumR_cons, sumR_cons]
    have h1 := h a (by simp)
    have h2 := ih (fun x hx => h x (by simp [hx]))
    grind
theorem sumR_add (l : List α) (f g : α → Rat) : sumR l (fun x => f x + g x) = sumR l f + sumR l g := by
  induction l with
  | nil => rw [sumR_nil, sumR_nil, sumR_nil]; grind
  | cons a l ih => rw [sumR_cons, sumR_cons, sumR_cons, ih]; grind
theorem sumR_mul (c : Rat) (l : List α) (f : α → Rat) : sumR l (fun x => c * f x) = c * sumR l f := by
  induction l with
  | nil => rw [sumR_nil, sumR_nil]; grind
  | cons a l ih => rw [sumR_cons, sumR_cons, ih]; grind
theorem sumR_zero (l : List α) : sumR l (fun _ => (0 : Rat)) = 0 := by
  induction l with
  | nil => rfl
  | cons a l ih => rw [sumR_cons, ih]; grind
end
/-- The sum of a list of integers, as a number. -/
def totR (l : List Int) : Rat := sumR l fun x => (x : Rat)
theorem picks_fst (R : List Int) : (picks R).map (·.1) = R := by
  induction R with
  | nil => rfl
  | cons a l ih => simp only [picks, List.map_cons, List.map_map]; rw [show ((fun x : Int × List Int => x.1) ∘ fun x : Int × List Int => (x.1, a :: x.2)) = (·.1) from rfl, ih]
theorem picks_sum (R : List Int) (f : Int → Rat) : sumR (picks R) (fun x => f x.1) = sumR R f := by
  rw [← sumR_map (·.1) (picks R) f, picks_fst]
theorem picks_mem {R : List Int} : ∀ {y : Int × List Int}, y ∈ picks R → y.1 ∈ R ∧ (∀ z ∈ y.2, z ∈ R) ∧ y.2.length + 1 = R.length ∧ totR R = (y.1 : Rat) + totR y.2 := by
  induction R with
  | nil => intro y h; simp [picks] at h
  | cons a l ih =>
    intro y h
    simp only [picks, List.mem_cons, List.mem_map] at h
    rcases h with rfl | ⟨x, hx, rfl⟩
    · exact ⟨by simp, fun z hz => by simp [hz], by simp, rfl⟩
    · obtain ⟨h1, h2, h3, h4⟩ := ih hx
      refine ⟨by simp [h1], fun z hz => ?_, by simp; omega, ?_⟩
      · rcases List.mem_cons.1 hz with rfl | hz
        · simp
        · simp [h2 z hz]
      · show totR (a :: l) = _
        have e1 : totR (a :: l) = (a : Rat) + totR l := rfl
        have e2 : totR (a :: x.2) = (a : Rat) + totR x.2 := rfl
        rw [e1, h4, e2]; grind
/-- The equity of a player with x chips against R. -/
def W : List Int → Int → List Int → Rat
  | [], _, _ => 0
  | p :: ps, x, R => ((x : Rat) * p + sumR (picks R) fun y => (y.1 : Rat) * W ps x y.2) * ((x : Rat) + totR R)⁻¹
def posL (R : List Int) : Prop := ∀ z ∈ R, 0 < z
theorem posL.pick {R : List Int} (h : posL R) {y : Int × List Int} (hy : y ∈ picks R) : (0 : Rat) < y.1 ∧ posL y.2 := by
  obtain ⟨h1, h2, _⟩ := picks_mem hy
  exact ⟨by have := h _ h1; exact_mod_cast this, fun z hz => h z (h2 z hz)⟩
theorem totR_nonneg {R : List Int} (h : posL R) : 0 ≤ totR R := by
  induction R with
  | nil => exact Rat.le_refl
  | cons a l ih =>
    have h1 : (0 : Rat) < a := by have := h a (by simp); exact_mod_cast this
    have h2 := ih (fun z hz => h z (by simp [hz]))
    show 0 ≤ (a : Rat) + totR l
    grind
/-- Prizes: none negative, none greater than one before. -/
def prizeL : List Int → Prop
  | [] => True
  | p :: ps => 0 ≤ p ∧ (∀ q ∈ ps, q ≤ p) ∧ prizeL ps
theorem inv_pos' {a : Rat} (h : 0 < a) : 0 < a⁻¹ := Rat.inv_pos.mpr h
theorem mul_nn {a b : Rat} (h : 0 ≤ a) (k : 0 ≤ b) : 0 ≤ a * b := Rat.mul_nonneg h k
theorem le_mul {a b c : Rat} (h : b ≤ c) (k : 0 ≤ a) : a * b ≤ a * c := Rat.mul_le_mul_of_nonneg_left h k
/-- Divided by a positive number. -/
theorem div_le_of {a b t : Rat} (ht : 0 < t) (h : a ≤ b * t) : a * t⁻¹ ≤ b := by
  have h1 := le_mul h (Rat.le_of_lt (inv_pos' ht))
  have h2 : t * t⁻¹ = 1 := Rat.mul_inv_cancel t (by grind)
  have e2 : t⁻¹ * (b * t) = b * (t * t⁻¹) := by grind
  rw [e2, h2] at h1
  grind
theorem div_cross {a b t u : Rat} (ht : 0 < t) (hu : 0 < u) (h : a * u ≤ b * t) : a * t⁻¹ ≤ b * u⁻¹ := by
  have h1 := le_mul h (mul_nn (Rat.le_of_lt (inv_pos' ht)) (Rat.le_of_lt (inv_pos' hu)))
  have h2 : t * t⁻¹ = 1 := Rat.mul_inv_cancel t (by grind)
  have h3 : u * u⁻¹ = 1 := Rat.mul_inv_cancel u (by grind)
  have e1 : t⁻¹ * u⁻¹ * (a * u) = a * t⁻¹ * (u * u⁻¹) := by grind
  have e2 : t⁻¹ * u⁻¹ * (b * t) = b * u⁻¹ * (t * t⁻¹) := by grind
  rw [e1, e2, h2, h3] at h1
  grind
theorem W_bd : ∀ (ps : List Int) (x : Int) (R : List Int), prizeL ps → 0 < x → posL R → 0 ≤ W ps x R ∧ ∀ b : Int, 0 ≤ b → (∀ q ∈ ps, q ≤ b) → W ps x R ≤ b := by
  intro ps
  induction ps with
  | nil => intro x R _ _ _; refine ⟨Rat.le_refl, fun b hb _ => ?_⟩
           have hb' : (0 : Rat) ≤ b := by exact_mod_cast hb
           exact hb'
  | cons p ps ih =>
    intro x R hp hx hR
    obtain ⟨p0, p1, p2⟩ := hp
    have hx' : (0 : Rat) < x := by exact_mod_cast hx
    have hT := totR_nonneg hR
    have hp0 : (0 : Rat) ≤ p := by exact_mod_cast p0
    have hT' : (0 : Rat) < (x : Rat) + totR R := by grind
    have hs0 : 0 ≤ sumR (picks R) fun y => (y.1 : Rat) * W ps x y.2 := by
      rw [← sumR_zero (picks R)]
      refine sumR_le fun y hy => ?_
      obtain ⟨h1, h2⟩ := hR.pick hy
      exact mul_nn (Rat.le_of_lt h1) (ih x y.2 p2 hx h2).1
    have hs1 : (sumR (picks R) fun y => (y.1 : Rat) * W ps x y.2) ≤ (p : Rat) * totR R := by
      have e : (p : Rat) * totR R = sumR (picks R) fun y => (p : Rat) * y.1 := by
        rw [sumR_mul, picks_sum R (fun z => (z : Rat))]; rfl
      rw [e]
      refine sumR_le fun y hy => ?_
      obtain ⟨h1, h2⟩ := hR.pick hy
      have h3 := (ih x y.2 p2 hx h2).2 p p0 p1
      have := le_mul h3 (Rat.le_of_lt h1)
      grind
    refine ⟨?_, fun b hb hq => ?_⟩
    · unfold W
      exact mul_nn (by have := mul_nn (Rat.le_of_lt hx') hp0; grind) (Rat.le_of_lt (inv_pos' hT'))
    · have hpb : (p : Rat) ≤ b := by have := hq p (by simp); exact_mod_cast this
      unfold W
      refine div_le_of hT' ?_
      have h4 := le_mul hpb (Rat.le_of_lt hT')
      grind
/-- It grows with the own stack. -/
theorem W_mono : ∀ (ps : List Int) (x y : Int) (R : List Int), prizeL ps → 0 < y → y ≤ x → posL R → W ps y R ≤ W ps x R := by
  intro ps
  induction ps with
  | nil => intro x y R _ _ _ _; exact Rat.le_refl
  | cons p ps ih =>
    intro x y R hp hy hxy hR
    obtain ⟨p0, p1, p2⟩ := hp
    have hy' : (0 : Rat) < y := by exact_mod_cast hy
    have hxy' : (y : Rat) ≤ x := by exact_mod_cast hxy
    have hT := totR_nonneg hR
    have hp0 : (0 : Rat) ≤ p := by exact_mod_cast p0
    have hTy : (0 : Rat) < (y : Rat) + totR R := by grind
    have hTx : (0 : Rat) < (x : Rat) + totR R := by grind
    have hs1 : (sumR (picks R) fun z => (z.1 : Rat) * W ps y z.2) ≤ (p : Rat) * totR R := by
      have e : (p : Rat) * totR R = sumR (picks R) fun z => (p : Rat) * z.1 := by
        rw [sumR_mul, picks_sum R (fun z => (z : Rat))]; rfl
      rw [e]
      refine sumR_le fun z hz => ?_
      obtain ⟨h1, h2⟩ := hR.pick hz
      have h3 := (W_bd ps y z.2 p2 hy h2).2 p p0 p1
      have := le_mul h3 (Rat.le_of_lt h1)
      grind
    have hs2 : (sumR (picks R) fun z => (z.1 : Rat) * W ps y z.2) ≤ sumR (picks R) fun z => (z.1 : Rat) * W ps x z.2 :=
      sumR_le fun z hz => by
        obtain ⟨h1, h2⟩ := hR.pick hz
        exact le_mul (ih x y z.2 p2 hy hxy h2) (Rat.le_of_lt h1)
    unfold W
    generalize (sumR (picks R) fun z => (z.1 : Rat) * W ps y z.2) = a at *
    generalize (sumR (picks R) fun z => (z.1 : Rat) * W ps x z.2) = b at *
    refine div_cross hTy hTx ?_
    have k1 := mul_nn (show 0 ≤ (x : Rat) - y by grind) (show 0 ≤ (p : Rat) * totR R - a by grind)
    have k2 := mul_nn (show 0 ≤ b - a by grind) (Rat.le_of_lt hTy)
    grind
/-- Against each other: the greater stack has no smaller equity. -/
theorem W_swap : ∀ (ps : List Int) (x y : Int) (R : List Int), prizeL ps → 0 < y → y ≤ x → posL R → W ps y (x :: R) ≤ W ps x (y :: R) := by
  intro ps
  induction ps with
  | nil => intro x y R _ _ _ _; exact Rat.le_refl
  | cons p ps ih =>
    intro x y R hp hy hxy hR
    have hp' := hp
    obtain ⟨p0, p1, p2⟩ := hp
    have hy' : (0 : Rat) < y := by exact_mod_cast hy
    have hxy' : (y : Rat) ≤ x := by exact_mod_cast hxy
    have hT := totR_nonneg hR
    have ex : totR (x :: R) = (x : Rat) + totR R := rfl
    have ey : totR (y :: R) = (y : Rat) + totR R := rfl
    have hTT : (0 : Rat) < (x : Rat) + ((y : Rat) + totR R) := by grind
    have hs : (sumR (picks R) fun z => (z.1 : Rat) * W ps y (x :: z.2)) ≤ sumR (picks R) fun z => (z.1 : Rat) * W ps x (y :: z.2) :=
      sumR_le fun z hz => by
        obtain ⟨h1, h2⟩ := hR.pick hz
        exact le_mul (ih x y z.2 p2 hy hxy h2) (Rat.le_of_lt h1)
    have hm := W_mono ps x y R p2 hy hxy hR
    have hb := (W_bd ps y R p2 hy hR).2 p p0 p1
    unfold W
    rw [ex, ey]
    simp only [picks]
    rw [sumR_cons, sumR_cons, sumR_map, sumR_map]
    simp only
    generalize (sumR (picks R) fun z => (z.1 : Rat) * W ps y (x :: z.2)) = a at *
    generalize (sumR (picks R) fun z => (z.1 : Rat) * W ps x (y :: z.2)) = b at *
    rw [show (y : Rat) + ((x : Rat) + totR R) = (x : Rat) + ((y : Rat) + totR R) by grind]
    have k1 := mul_nn (show 0 ≤ (x : Rat) - y by grind) (show 0 ≤ (p : Rat) - W ps y R by grind)
    have k2 := le_mul hm (Rat.le_of_lt hy')
    have k3 : (y : Rat) * p + ((x : Rat) * W ps y R + a) ≤ (x : Rat) * p + ((y : Rat) * W ps x R + b) := by grind
    have := le_mul k3 (Rat.le_of_lt (inv_pos' hTT))
    grind
end Go.Proofs.Ythpgkngkmmameaa
