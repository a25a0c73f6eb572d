/-
  The contracts of ChipValue. Conditions: at most 1048576 elements.
-/
import Derived.Test.YthpgkngkmmameaaIcmTop
import Derived.Test.YthpgkngkmmameaaNeg
namespace Go.Proofs.Ythpgkngkmmameaa
open Go.RowKit
attribute [local go_sem ↓] Go.wp_at_zero Go.wp_at_succ
set_option linter.unusedVariables false
def subO (a b : Option (Int × Int)) : Option (Int × Int) := a.bind fun x => b.bind fun y => ratQ (x.1 * y.2 - y.1 * x.2) (x.2 * y.2)
def cvQ (S P : List Int) (k : Nat) : Option (Int × Int) := subO (mulO (ratQ (S.getD k 0) (sumL S)) (some (sumL P, 1))) (icm P S k)
def cvN (S P : List Int) (i : Int) : Int := if eqB S P i = 0 then icN (cvQ S P i.toNat) else 0
def cvD (S P : List Int) (i : Int) : Int := if eqB S P i = 0 then icD (cvQ S P i.toNat) else 0
def cvE (S P : List Int) (i : Int) : Int := if eqB S P i = 0 then icE (cvQ S P i.toNat) else eqB S P i
theorem cv_join {R F : Option (Int × Int)} {n1 d1 n2 d2 n3 d3 p m : Int} (h1 : ∀ x, R = some x → x = (n1, d1) ∧ isR n1 d1 = true) (h2 : ∀ x, (R.bind fun _ => ratQ (n1 * p) (d1 * 1)) = some x → x = (n2, d2) ∧ isR n2 d2 = true)
    (h3 : ∀ x, ((R.bind fun _ => ratQ (n1 * p) (d1 * 1)).bind fun _ => F) = some x → x = (n3, d3) ∧ isR n3 d3 = true) (hm : isR n3 d3 = true → m = -n3) :
    (((R.bind fun _ => ratQ (n1 * p) (d1 * 1)).bind fun _ => F).bind fun _ => ratQ (n2 * d3 + m * d2) (d2 * d3)) = subO (mulO R (some (p, 1))) F := by
  cases R with
  | none => rfl
  | some r =>
    obtain ⟨rfl, -⟩ := h1 _ rfl
    show (((ratQ (n1 * p) (d1 * 1)).bind fun _ => F).bind fun _ => ratQ (n2 * d3 + m * d2) (d2 * d3)) = subO (ratQ (n1 * p) (d1 * 1)) F
    have h2' : ∀ x, ratQ (n1 * p) (d1 * 1) = some x → x = (n2, d2) ∧ isR n2 d2 = true := h2
    have h3' : ∀ x, ((ratQ (n1 * p) (d1 * 1)).bind fun _ => F) = some x → x = (n3, d3) ∧ isR n3 d3 = true := h3
    clear h2 h3
    cases hq : ratQ (n1 * p) (d1 * 1) with
    | none => rfl
    | some x =>
      obtain ⟨rfl, -⟩ := h2' x hq
      rw [hq] at h3'
      cases F with
      | none => rfl
      | some f =>
        obtain ⟨rfl, hr⟩ := h3' _ rfl
        rw [hm hr]
        show ratQ (n2 * d3 + -n3 * d2) (d2 * d3) = ratQ (n2 * d3 - n3 * d2) (d2 * d3)
        rw [Int.neg_mul]
        rfl
theorem IcOk.psum {S P : List Int} {i : Nat} (h : IcOk S P i) : 0 ≤ sumL P ∧ sumL P ≤ 500000 := by
  have h1 := (sumL_bound (zs := P) (B := 100000) (by omega) (fun x hx => by have := h.p x hx; omega) P.length).2
  rw [List.take_length] at h1
  have h2 := h.l2
  have h3 := h.n
  have h4 : 0 ≤ sumL P := by
    have pos : ∀ l : List Int, (∀ x ∈ l, 0 ≤ x) → 0 ≤ sumL l := by
      intro l
      induction l with
      | nil => intro _; simp [sumL]
      | cons x l ih =>
        intro hx
        have e : sumL (x :: l) = sumL [x] + sumL l := sumL_app [x] l
        have e1 : sumL [x] = x := by simp [sumL]
        have := ih (fun y hy => hx y (by simp [hy]))
        have := hx x (by simp)
        omega
    exact pos P (fun x hx => (h.p x hx).1)
  exact ⟨h4, by omega⟩
theorem IcOk.bigS {S P : List Int} {i : Nat} (h : IcOk S P i) : Hid (∀ x ∈ S, -4000000000 ≤ x ∧ x ≤ 4000000000) := Lib.hid (fun x hx => by have := h.s x hx; omega)
theorem IcOk.bigP {S P : List Int} {i : Nat} (h : IcOk S P i) : Hid (∀ x ∈ P, -4000000000 ≤ x ∧ x ≤ 4000000000) := Lib.hid (fun x hx => by have := h.p x hx; omega)
theorem ic_red (n d : Int) : icN (ratQ n d) = redN n d ∧ icD (ratQ n d) = redD n d ∧ icE (ratQ n d) = redE n d := by
  rcases red_cases n d with ⟨he, hq⟩ | ⟨he, hN, hD, hq⟩
  · rw [hq, he]; exact ⟨rfl, rfl, rfl⟩
  · rw [hq, he, hN, hD]; exact ⟨rfl, rfl, rfl⟩
theorem cv_none {S P : List Int} {i : Int} {k : Nat} (h0 : eqB S P i = 0) (hk : i.toNat = k) (h : cvQ S P k = none) : 0 = cvN S P i ∧ 0 = cvD S P i ∧ 3 = cvE S P i := by
  unfold cvN cvD cvE
  rw [if_pos h0, if_pos h0, if_pos h0, hk, h]
  exact ⟨rfl, rfl, rfl⟩
end Go.Proofs.Ythpgkngkmmameaa
