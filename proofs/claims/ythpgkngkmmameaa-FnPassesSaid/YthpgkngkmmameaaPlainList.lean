/-
  Plain facts on lists of integers. No program stands here.
-/
import Derived.Test.YthpgkngkmmameaaRows
namespace Go.Proofs.Ythpgkngkmmameaa
theorem copy_step (zs : List Int) (n k : Nat) (x : Int) (hn : zs.length = n) (hk : k < n) (hx : zs[k]? = some x) :
    (zs.take k ++ List.replicate (n - k) 0).set k x = zs.take (k + 1) ++ List.replicate (n - (k + 1)) 0 := by
  have hl : (zs.take k).length = k := by rw [List.length_take]; omega
  rw [List.set_append_right _ _ (by omega), hl, Nat.sub_self]
  rw [show n - k = (n - (k + 1)) + 1 from by omega, List.replicate_succ, List.set_cons_zero]
  rw [List.take_add_one, hx]
  simp
theorem get_some {zs : List Int} {k : Nat} (h : k < zs.length) : ∃ x, zs[k]? = some x := ⟨zs[k], List.getElem?_eq_getElem h⟩
/-- 1, 2, .., as marks. -/
def marks (s : Int) : Nat → List Int
  | 0 => []
  | n + 1 => s :: marks (s + 1) n
theorem marks_length (n : Nat) : ∀ s, (marks s n).length = n := by
  induction n with
  | zero => intro s; rfl
  | succ n ih => intro s; simp [marks, ih]
theorem marks_get (n : Nat) : ∀ (s : Int) (k : Nat), k < n → (marks s n)[k]? = some (s + k) := by
  induction n with
  | zero => intro s k h; omega
  | succ n ih =>
    intro s k h
    cases k with
    | zero => simp [marks]
    | succ k => simp only [marks, List.getElem?_cons_succ]; rw [ih (s + 1) k (by omega)]; congr 1; omega
theorem mark_step (zs : List Int) (s : Int) (n k : Nat) (hn : zs.length = n) (hk : k < n) :
    ((marks s n).take k ++ zs.drop k).set k (s + k) = (marks s n).take (k + 1) ++ zs.drop (k + 1) := by
  have hm : (marks s n).length = n := marks_length n s
  have hl : ((marks s n).take k).length = k := by rw [List.length_take]; omega
  rw [List.set_append_right _ _ (by omega), hl, Nat.sub_self]
  rw [List.drop_eq_getElem_cons (by omega), List.set_cons_zero, List.take_add_one, marks_get n s k hk]
  simp
end Go.Proofs.Ythpgkngkmmameaa
