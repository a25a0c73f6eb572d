/-
  FinishesOf: plain functions, and the contract of the program's. Conditions: at most 1048576 shares, groups and entries of a group.
-/
import Derived.Test.YthpgkngkmmameaaMat
import Derived.Test.YthpgkngkmmameaaPool
namespace Go.Proofs.Ythpgkngkmmameaa
open Go.RowKit
set_option linter.unusedVariables false
/-- Who is gone when the first k of a group are gone, or none. -/
def goneK (N : Int) (g : List Int) : Nat → List Bool → Option (List Bool)
  | 0, s => some s
  | k + 1, s => (goneK N g k s).bind fun s' => if inB (g.getD k 0) 0 (N - 1) = true ∧ s'.getD (g.getD k 0).toNat false = false then some (s'.set (g.getD k 0).toNat true) else none
def putK (L : Int) (g : List Int) : Nat → List Int → List Int
  | 0, f => f
  | k + 1, f => (putK L g k f).set (g.getD k 0).toNat L
def grpS (N : Int) (g : List Int) (s : List Int × List Bool × Int) : Option (List Int × List Bool × Int) :=
  if g = [] then none else (goneK N g g.length s.2.1).map fun b => (putK (s.2.2 - g.length) g g.length s.1, b, s.2.2 - g.length)
def foK (N : Int) (rows : List (List Int)) : Nat → Option (List Int × List Bool × Int)
  | 0 => some (List.replicate N.toNat 0, List.replicate N.toNat false, N)
  | k + 1 => (foK N rows k).bind fun s => grpS N (rows.getD k []) s
def foA (N : Int) (rows : List (List Int)) : Option (List Int) := (foK N rows rows.length).bind fun s => if s.2.2 = 0 then none else some s.1
def foE (N B F G : Int) (S : List Int) (rows : List (List Int)) : Int := if evB N B F G S = true then (if (foA N rows).isSome = true then 0 else 2) else 1
def foV (N B F G : Int) (S : List Int) (rows : List (List Int)) : List Int := if evB N B F G S = true then (foA N rows).getD [] else []
theorem goneK_len {N : Int} {g : List Int} {s t : List Bool} : ∀ k, goneK N g k s = some t → t.length = s.length
  | 0, h => by injection h with h; rw [h]
  | k + 1, h => by
    simp only [goneK] at h
    cases h1 : goneK N g k s with
    | none => rw [h1] at h; cases h
    | some t1 =>
      rw [h1] at h
      simp only [Option.bind_some] at h
      split at h
      · injection h with h; subst h; rw [List.length_set]; exact goneK_len k h1
      · cases h
theorem goneK_none {N : Int} {g : List Int} {s : List Bool} {k j : Nat} (h : goneK N g k s = none) (hkj : k ≤ j) : goneK N g j s = none := by
  induction j with
  | zero => obtain rfl : k = 0 := by omega
            exact h
  | succ j ih =>
    by_cases hk : k = j + 1
    · subst hk; exact h
    · simp only [goneK]; rw [ih (by omega)]; rfl
theorem putK_len (L : Int) (g f : List Int) : ∀ k, (putK L g k f).length = f.length
  | 0 => rfl
  | k + 1 => by simp only [putK, List.length_set]; exact putK_len L g f k
theorem foK_none {N : Int} {rows : List (List Int)} {k j : Nat} (h : foK N rows k = none) (hkj : k ≤ j) : foK N rows j = none := by
  induction j with
  | zero => obtain rfl : k = 0 := by omega
            exact h
  | succ j ih =>
    by_cases hk : k = j + 1
    · subst hk; exact h
    · simp only [foK]; rw [ih (by omega)]; rfl
theorem foK_len {N : Int} {rows : List (List Int)} {s : List Int × List Bool × Int} : ∀ k, foK N rows k = some s → s.1.length = N.toNat ∧ s.2.1.length = N.toNat
  | 0, h => by injection h with h; subst h; simp
  | k + 1, h => by
    simp only [foK] at h
    cases h1 : foK N rows k with
    | none => rw [h1] at h; cases h
    | some t =>
      rw [h1] at h
      obtain ⟨a, b⟩ := foK_len k h1
      simp only [Option.bind_some, grpS] at h
      split at h
      · cases h
      · cases h2 : goneK N (rows.getD k []) (rows.getD k []).length t.2.1 with
        | none => rw [h2] at h; cases h
        | some u =>
          rw [h2] at h
          injection h with h
          subst h
          exact ⟨by rw [putK_len]; exact a, by rw [goneK_len _ h2]; exact b⟩
theorem foE_none {N B F G : Int} {S : List Int} {rows : List (List Int)} (h : evB N B F G S = true) (ha : foA N rows = none) : foE N B F G S rows = 2 ∧ foV N B F G S rows = [] := by
  unfold foE foV
  rw [if_pos h, if_pos h, ha]
  exact ⟨rfl, rfl⟩
theorem foE_some {N B F G : Int} {S : List Int} {rows : List (List Int)} {f : List Int} (h : evB N B F G S = true) (ha : foA N rows = some f) : foE N B F G S rows = 0 ∧ foV N B F G S rows = f := by
  unfold foE foV
  rw [if_pos h, if_pos h, ha]
  exact ⟨rfl, rfl⟩
theorem foA_none {N : Int} {rows : List (List Int)} {k : Nat} (h : foK N rows k = none) (hk : k ≤ rows.length) : foA N rows = none := by
  unfold foA
  rw [foK_none h hk]
  rfl
/-- A step of a group. -/
theorem grp_step {N : Int} {rows : List (List Int)} {k : Nat} {s : List Int × List Bool × Int} {g : List Int} (h : foK N rows k = some s) (hg : rows[k]? = some g) : foK N rows (k + 1) = grpS N g s := by
  simp only [foK]
  rw [h, show rows.getD k [] = g by simp [List.getD, hg]]
  rfl
theorem one_step {N : Int} {g : List Int} {k : Nat} {s t : List Bool} {x : Int} (h : goneK N g k s = some t) (hx : g[k]? = some x) : goneK N g (k + 1) s = if inB x 0 (N - 1) = true ∧ t.getD x.toNat false = false then some (t.set x.toNat true) else none := by
  simp only [goneK]
  rw [h, show g.getD k 0 = x by simp [List.getD, hx]]
  rfl
theorem put_step {L : Int} {g f : List Int} {k : Nat} {x : Int} (hx : g[k]? = some x) : putK L g (k + 1) f = (putK L g k f).set x.toNat L := by
  simp only [putK]
  rw [show g.getD k 0 = x by simp [List.getD, hx]]
end Go.Proofs.Ythpgkngkmmameaa
