/-
  The equity as a number: the order of the others does not matter; all equities add up to the prizes; the chances of all places add up to 1. No program stands here.
-/
import Derived.Test.YthpgkngkmmameaaRicm
namespace Go.Proofs.Ythpgkngkmmameaa
set_option linter.unusedVariables false
/-- A sum over picks does not ask for the order. -/
theorem picks_perm {l m : List Int} (h : l.Perm m) : ∀ (F : Int → List Int → Rat), (∀ a r s, r.Perm s → F a r = F a s) → sumR (picks l) (fun y => F y.1 y.2) = sumR (picks m) (fun y => F y.1 y.2) := by
  induction h with
  | nil => intro F _; rfl
  | cons x h ih =>
    intro F hF
    simp only [picks]
    rw [sumR_cons, sumR_cons, sumR_map, sumR_map]
    simp only
    rw [hF x _ _ h, ih (fun a r => F a (x :: r)) (fun a r s hrs => hF a _ _ (hrs.cons x))]
  | swap x y l =>
    intro F hF
    simp only [picks, List.map_cons, List.map_map]
    rw [sumR_cons, sumR_cons, sumR_cons, sumR_cons, sumR_map, sumR_map]
    simp only [Function.comp]
    have e : (sumR (picks l) fun z => F z.1 (y :: x :: z.2)) = sumR (picks l) fun z => F z.1 (x :: y :: z.2) := sumR_congr fun z _ => hF _ _ _ (List.Perm.swap x y z.2)
    rw [e]; grind
  | trans _ _ ih1 ih2 => intro F hF; rw [ih1 F hF, ih2 F hF]
theorem totR_perm {l m : List Int} (h : l.Perm m) : totR l = totR m := by
  induction h with
  | nil => rfl
  | cons x h ih => show (x : Rat) + totR _ = (x : Rat) + totR _; rw [ih]
  | swap x y l => show (y : Rat) + ((x : Rat) + totR l) = (x : Rat) + ((y : Rat) + totR l); grind
  | trans _ _ ih1 ih2 => rw [ih1, ih2]
theorem W_perm : ∀ (ps : List Int) (x : Int) {l m : List Int}, l.Perm m → W ps x l = W ps x m := by
  intro ps
  induction ps with
  | nil => intro x l m _; rfl
  | cons p ps ih =>
    intro x l m h
    unfold W
    rw [totR_perm h, picks_perm h (fun a r => (a : Rat) * W ps x r) (fun a r s hrs => by rw [ih x hrs])]
/-- Two picks, one after the other, in either order. -/
theorem picks_two (l : List Int) : ∀ (F : Int → Int → List Int → Rat), sumR (picks l) (fun y => sumR (picks y.2) fun z => F y.1 z.1 z.2) = sumR (picks l) (fun y => sumR (picks y.2) fun z => F z.1 y.1 z.2) := by
  induction l with
  | nil => intro F; rfl
  | cons c l ih =>
    intro F
    simp only [picks]
    rw [sumR_cons, sumR_cons, sumR_map, sumR_map]
    simp only [picks, sumR_cons, sumR_map]
    rw [sumR_add, sumR_add, ih (fun a b r => F a b (c :: r))]
    grind
theorem totR_pos {l : List Int} (h : posL l) (hl : 0 < l.length) : 0 < totR l := by
  cases l with
  | nil => simp at hl
  | cons a l =>
    have h1 : (0 : Rat) < a := by have := h a (by simp); exact_mod_cast this
    have h2 := totR_nonneg (R := l) (fun z hz => h z (by simp [hz]))
    show 0 < (a : Rat) + totR l
    grind
theorem inv_mul' {t : Rat} (h : 0 < t) : t⁻¹ * t = 1 := by rw [Rat.mul_comm]; exact Rat.mul_inv_cancel t (by grind)
/-- All equities add up to the prizes. -/
theorem W_sum : ∀ (ps : List Int) (S : List Int), posL S → ps.length ≤ S.length → sumR (picks S) (fun y => W ps y.1 y.2) = totR ps := by
  intro ps
  induction ps with
  | nil => intro S _ _; exact sumR_zero _
  | cons p ps ih =>
    intro S hS hl
    simp only [List.length_cons] at hl
    have hT := totR_pos hS (by omega)
    have e1 : sumR (picks S) (fun y => W (p :: ps) y.1 y.2) = sumR (picks S) fun y => (totR S)⁻¹ * ((p : Rat) * (y.1 : Rat) + sumR (picks y.2) fun z => (z.1 : Rat) * W ps y.1 z.2) := by
      refine sumR_congr fun y hy => ?_
      obtain ⟨_, _, _, h4⟩ := picks_mem hy
      rw [show W (p :: ps) y.1 y.2 = ((y.1 : Rat) * p + sumR (picks y.2) fun z => (z.1 : Rat) * W ps y.1 z.2) * ((y.1 : Rat) + totR y.2)⁻¹ from rfl, h4]; grind
    rw [e1, sumR_mul, sumR_add, sumR_mul, picks_sum S (fun z => (z : Rat)), picks_two S (fun a b r => (b : Rat) * W ps a r)]
    have e2 : sumR (picks S) (fun y => sumR (picks y.2) fun z => (y.1 : Rat) * W ps z.1 z.2) = sumR (picks S) fun y => totR ps * (y.1 : Rat) := by
      refine sumR_congr fun y hy => ?_
      obtain ⟨_, h2, h3, _⟩ := picks_mem hy
      rw [sumR_mul, ih y.2 (hS.pick hy).2 (by omega)]; grind
    rw [e2, sumR_mul, picks_sum S (fun z => (z : Rat))]
    show (totR S)⁻¹ * ((p : Rat) * totR S + totR ps * totR S) = (p : Rat) + totR ps
    have := inv_mul' hT
    grind
/-- 1 for place k, 0 before. -/
def unitL (k : Nat) : List Int := List.replicate k 0 ++ [1]
theorem W_unit : ∀ (n : Nat) (x : Int) (R : List Int), 0 < x → posL R → R.length = n → sumR (List.range (n + 1)) (fun k => W (unitL k) x R) = 1 := by
  intro n
  induction n with
  | zero =>
    intro x R hx hR hl
    obtain rfl : R = [] := List.eq_nil_of_length_eq_zero hl
    have hx' : (0 : Rat) < x := by exact_mod_cast hx
    show ((x : Rat) * ((1 : Int) : Rat) + 0) * ((x : Rat) + 0)⁻¹ + 0 = 1
    have h1 := Rat.mul_inv_cancel (x : Rat) (by grind)
    have e : (x : Rat) + 0 = x := by grind
    rw [e, show ((1 : Int) : Rat) = 1 from rfl]; grind
  | succ n ih =>
    intro x R hx hR hl
    have hx' : (0 : Rat) < x := by exact_mod_cast hx
    have hT := totR_nonneg hR
    have hTT : (0 : Rat) < (x : Rat) + totR R := by grind
    have h1 := inv_mul' hTT
    rw [List.range_succ_eq_map, sumR_cons, sumR_map]
    have e0 : W (unitL 0) x R = (x : Rat) * ((x : Rat) + totR R)⁻¹ := by
      show ((x : Rat) * ((1 : Int) : Rat) + sumR (picks R) fun y => (y.1 : Rat) * 0) * ((x : Rat) + totR R)⁻¹ = _
      have : (sumR (picks R) fun y => (y.1 : Rat) * 0) = 0 := (sumR_congr (g := fun _ => (0 : Rat)) fun y _ => by grind).trans (sumR_zero _)
      rw [this, show ((1 : Int) : Rat) = 1 from rfl]; grind
    have e1 : ∀ k : Nat, W (unitL (k + 1)) x R = ((x : Rat) + totR R)⁻¹ * sumR (picks R) fun y => (y.1 : Rat) * W (unitL k) x y.2 := by
      intro k
      have : unitL (k + 1) = 0 :: unitL k := by unfold unitL; rw [List.replicate_succ, List.cons_append]
      rw [this]
      show ((x : Rat) * ((0 : Int) : Rat) + _) * _ = _
      rw [show ((0 : Int) : Rat) = 0 from rfl]; grind
    have e2 : sumR (List.range (n + 1)) (fun k => W (unitL (k + 1)) x R) = ((x : Rat) + totR R)⁻¹ * sumR (List.range (n + 1)) fun k => sumR (picks R) fun y => (y.1 : Rat) * W (unitL k) x y.2 := by
      rw [← sumR_mul]
      exact sumR_congr fun k _ => e1 k
    have e3 : ∀ l : List Nat, (sumR l fun k => sumR (picks R) fun y => (y.1 : Rat) * W (unitL k) x y.2) = sumR (picks R) fun y => (y.1 : Rat) * sumR l fun k => W (unitL k) x y.2 := by
      intro l
      induction l with
      | nil =>
        rw [sumR_nil]
        exact ((sumR_congr (g := fun _ => (0 : Rat)) fun y _ => by rw [sumR_nil]; grind).trans (sumR_zero _)).symm
      | cons k l ih2 =>
        rw [sumR_cons, ih2, ← sumR_add]
        exact sumR_congr fun y _ => by rw [sumR_cons]; grind
    have e4 : (sumR (picks R) fun y => (y.1 : Rat) * sumR (List.range (n + 1)) fun k => W (unitL k) x y.2) = totR R := by
      have : (sumR (picks R) fun y => (y.1 : Rat) * sumR (List.range (n + 1)) fun k => W (unitL k) x y.2) = sumR (picks R) fun y => (y.1 : Rat) := by
        refine sumR_congr fun y hy => ?_
        obtain ⟨_, _, h3, _⟩ := picks_mem hy
        rw [ih x y.2 hx (hR.pick hy).2 (by omega)]; grind
      rw [this, picks_sum R (fun z => (z : Rat))]; rfl
    show W (unitL 0) x R + sumR (List.range (n + 1)) (fun k => W (unitL (k + 1)) x R) = 1
    rw [e0, e2, e3, e4]
    grind
end Go.Proofs.Ythpgkngkmmameaa
