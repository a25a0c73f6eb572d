/-
  How a slice of bytes reads (BR), how it stays, and laws.big. Conditions: none.
-/
import Derived.Test.YthpgkngkmmameaaArg
import Derived.Test.YthpgkngkmmameaaSrc
namespace Go.Proofs.Ythpgkngkmmameaa
open Go.RowKit
set_option linter.unusedVariables false
theorem isRow_br {w : World} {a : Option Addr} {len cap : Nat} {zs : List Int} (h : IsRow .u8 w a len cap zs) : BR w a (zs.take len) := by
  have hwf := isRow_wf h
  refine ⟨?_, fun x hx => by
    have h1 : (decide (IntKind.u8.min ≤ x) && decide (x ≤ IntKind.u8.max)) = true := hwf x hx
    rw [show IntKind.u8.min = 0 from rfl, show IntKind.u8.max = 255 from rfl, Bool.and_eq_true, decide_eq_true_eq, decide_eq_true_eq] at h1
    exact h1⟩
  rcases h with ⟨_, rfl, _, rfl⟩ | ⟨x, rfl, hl, _, hz, hc, _⟩
  · exact .inl rfl
  · rcases Nat.eq_zero_or_pos len with h0 | h0
    · exact .inl (by rw [h0]; rfl)
    · have h1 := hc 0 (by omega)
      obtain ⟨b, off, spot⟩ := x
      have hs : spot = none := by
        cases spot with
        | none => rfl
        | some q =>
          simp only [Addr.add, ↓reduceIte, World.cell?] at h1
          split at h1 <;> simp at h1
      subst hs
      have hlt : b < w.heap.size := World.block_lt_of_cell? w _ (by rw [Addr.add_lit] at h1; exact h1)
      refine .inr ⟨b, off, rfl, hlt, hlt, fun j y hy => ?_⟩
      have hj : j < len := by
        have := (List.getElem?_eq_some_iff.1 hy).1
        rw [List.length_take] at this
        omega
      have h2 := hc j (by omega)
      rw [Addr.add_lit] at h2
      rw [h2]
      rw [List.getElem?_take_of_lt hj] at hy
      simp [List.getD, hy]
theorem BR.below {w w' : World} {A : Option Addr} {bs : List Int} (h : BR w A bs) (hb : Below w.heap.size w w') : BR w' A bs := by
  refine ⟨?_, h.2⟩
  rcases h.1 with hn | ⟨b, off, e, h1, h2, h3⟩
  · exact .inl hn
  · exact .inr ⟨b, off, e, Nat.lt_of_lt_of_le h2 hb.size, Nat.lt_of_lt_of_le h2 hb.size, fun j x hx => (hb.cell (p := ⟨b, off + j, none⟩) h2).trans (h3 j x hx)⟩
theorem laws_big_c (A : Option Addr) (n c : Nat) (w : World) : Calls Try.prog 21 #[.slice A n c] w fun e w' => e = .returned (.bool (decide (4096 < n))) ∧ w = w' := by
  by_cases h : 4096 < n
  · have hx : (4096 : Int) < (n : Int) := by omega
    have HB := Lib.hid (show decide (4096 < n) = true by simp [h])
    clear h
    go_enter Try.func21, Try.ntmps21
    go_wp2_with fail
    go_ret
    exact ⟨ret_bool HB.out.symm, rfl⟩
  · have hx : ¬ (4096 : Int) < (n : Int) := by omega
    have HB := Lib.hid (show decide (4096 < n) = false by simp [h])
    clear h
    go_enter Try.func21, Try.ntmps21
    go_wp2_with fail
    go_ret
    exact ⟨ret_bool HB.out.symm, rfl⟩
end Go.Proofs.Ythpgkngkmmameaa
