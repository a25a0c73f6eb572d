/-
  The equity of a player, by two recursions: over the list of those that are left, and over a list with marks. No program stands here.
-/
import Derived.Test.YthpgkngkmmameaaRatio
import Derived.Test.YthpgkngkmmameaaSums
namespace Go.Proofs.Ythpgkngkmmameaa
set_option linter.unusedVariables false
/-- A ratio in lowest terms, where its parts are small enough. -/
def ratQ (n d : Int) : Option (Int × Int) := if redE n d = 0 then some (redN n d, redD n d) else none
def mulO (a b : Option (Int × Int)) : Option (Int × Int) := a.bind fun x => b.bind fun y => ratQ (x.1 * y.1) (x.2 * y.2)
def addO (a b : Option (Int × Int)) : Option (Int × Int) := a.bind fun x => b.bind fun y => ratQ (x.1 * y.2 + y.1 * x.2) (x.2 * y.2)
/-- The index of a player when player j has gone. -/
def dropTo (i j : Nat) : Nat := if j < i then i - 1 else i
/-- The equity of player i of the list S, the prizes being p, ps... -/
def icm : List Int → List Int → Nat → Option (Int × Int)
  | [], _, _ => none
  | p :: ps, S, i =>
    if ps = [] then mulO (ratQ (S.getD i 0) (sumL S)) (some (p, 1))
    else (List.range S.length).foldl (fun acc j => if j = i then acc else addO acc (mulO (ratQ (S.getD j 0) (sumL S)) (icm ps (S.eraseIdx j) (dropTo i j)))) (mulO (ratQ (S.getD i 0) (sumL S)) (some (p, 1)))
/-- Those that are not marked. -/
def keepL (S : List Int) (o : List Bool) : List Int := ((List.range S.length).filter fun j => !(o.getD j false)).map fun j => S.getD j 0
/-- How many before index i are not marked. -/
def rankL (o : List Bool) (i : Nat) : Nat := ((List.range i).filter fun j => !(o.getD j false)).length
/-- The same over marks. -/
def icmF : List Int → List Int → List Bool → Nat → Option (Int × Int)
  | [], _, _, _ => none
  | p :: ps, S, o, i =>
    if ps = [] then mulO (ratQ (S.getD i 0) (sumL (keepL S o))) (some (p, 1))
    else (List.range S.length).foldl (fun acc j => if o.getD j false = true ∨ j = i then acc else addO acc (mulO (ratQ (S.getD j 0) (sumL (keepL S o))) (icmF ps S (o.set j true) i))) (mulO (ratQ (S.getD i 0) (sumL (keepL S o))) (some (p, 1)))
/-- A fold that skips is a fold over the others. -/
theorem foldl_skip {α β : Type} (q : α → Bool) (f : β → α → β) (l : List α) : ∀ b : β, l.foldl (fun acc j => if q j = true then acc else f acc j) b = (l.filter fun j => !(q j)).foldl f b := by
  induction l with
  | nil => intro b; rfl
  | cons x l ih =>
    intro b
    rw [List.foldl_cons, List.filter_cons]
    cases h : q x
    · simp only [Bool.false_eq_true, if_false, Bool.not_false, if_true, List.foldl_cons]; exact ih _
    · simp only [if_true, Bool.not_true, Bool.false_eq_true, if_false]; exact ih _
theorem foldl_congr_mem {α β : Type} {f g : β → α → β} {l : List α} (h : ∀ x ∈ l, ∀ b, f b x = g b x) : ∀ b : β, l.foldl f b = l.foldl g b := by
  induction l with
  | nil => intro b; rfl
  | cons x l ih => intro b; rw [List.foldl_cons, List.foldl_cons, h x (by simp)]; exact ih (fun y hy => h y (by simp [hy])) _
end Go.Proofs.Ythpgkngkmmameaa
