/-
  The contract of slices.Delete of one element out of a row of the call's own. Conditions: the index lies in the row; at most 1048576 elements.
-/
import Derived.Test.YthpgkngkmmameaaOwn
import Derived.Deep.RegionLaw
import Derived.Lib.SliceRun
import Derived.BigFrame
namespace Go.Proofs.Ythpgkngkmmameaa
open Go.RowKit
set_option linter.unusedVariables false
/-- What is moved one to the left. -/
def movedL (zs : List Int) (i : Nat) : List Value := (zs.drop (i + 1)).map (Value.int .i64)
theorem movedL_len (zs : List Int) (i : Nat) : (movedL zs i).length = zs.length - (i + 1) := by simp [movedL]
theorem movedL_get {zs : List Int} {i j : Nat} {u : Value} (h : (movedL zs i)[j]? = some u) : ∃ x, zs[i + 1 + j]? = some x ∧ u = .int .i64 x := by
  unfold movedL at h
  rw [List.getElem?_map, List.getElem?_drop] at h
  cases hx : zs[i + 1 + j]? with
  | none => rw [hx] at h; simp at h
  | some x => rw [hx] at h; simp at h; exact ⟨x, rfl, h.symm⟩
theorem Row.parts {w : World} {base g n c : Nat} {zs : List Int} (h : Row w base (some ⟨g, 0, none⟩) n c zs) : n ≤ c ∧ c ≤ 9223372036854775807 ∧ base ≤ g ∧ g < w.heap.size ∧ (∀ j, w.frozen? ⟨g, j, none⟩ = false) ∧ ∀ (j : Nat) (x : Int), zs[j]? = some x → w.cell? ⟨g, j, none⟩ = some (.int .i64 x) := by
  have hcells : ∀ (j : Nat) (x : Int), zs[j]? = some x → w.cell? ⟨g, j, none⟩ = some (.int .i64 x) := by
    intro j x hx
    have h1 : (zs.map (Value.int .i64))[j]? = some (.int .i64 x) := by simp [hx]
    have := World.ownsRow.cells h (g := g) rfl j _ h1
    rwa [Addr.add_lit, Nat.zero_add] at this
  rcases h.2 with ⟨hv, _⟩ | ⟨g', cap, cur, hv, hb, hh, hn, hc, _, _⟩
  · cases hv
  · injection hv with e _ e2
    injection e with e
    injection e with e
    subst e
    refine ⟨by omega, by unfold maxLen at hc; omega, hb, (Array.getElem?_eq_some_iff.1 hh).1, fun j => by simp [World.frozen?, hh], hcells⟩
theorem kept_setCells (g : Nat) : ∀ (vs : List Value) (o : Nat) (w : World), Kept g (g + 1) w (w.setCells g o vs) := by
  intro vs
  induction vs with
  | nil => intro o w; exact Kept.refl _ _ _
  | cons v vs ih => intro o w; exact ((Kept.refl g (g + 1) w).setCell (p := ⟨g, o, none⟩) (.inl ⟨Nat.le_refl _, by simp⟩) v).trans (ih (o + 1) _)
set_option maxRecDepth 1000000 in
set_option maxHeartbeats 1600000 in
theorem slices_Delete_c (base g n c i : Nat) (zs : List Int) (w : World) (hrow : Row w base (some ⟨g, 0, none⟩) n c zs) (hi : i < n) (hm : n ≤ 1048576) :
    Calls Try.prog 160 #[.slice (some ⟨g, 0, none⟩) n c, .int .i64 i, .int .i64 (i + 1 : Nat)] w fun e w' => e = .returned (.slice (some ⟨g, 0, none⟩) (n - 1) c) ∧ OI w' g (g + 1) (some ⟨g, 0, none⟩) (zs.eraseIdx i) ∧ Kept g (g + 1) w w' := by
  obtain ⟨i0, hi0, hz0, hz1, hz2⟩ := info_parts info_int
  have hlen := hrow.length
  obtain ⟨m, rfl⟩ : ∃ m, n = m + 1 := ⟨n - 1, by omega⟩
  obtain ⟨hnc, hcm, hbg, hgw, hfz, hcell⟩ := hrow.parts
  obtain ⟨A, hA, hnews⟩ : ∃ A : Addr, (if c = i + 1 then some (⟨g, 0, none⟩ : Addr) else some ⟨g, i + 1, none⟩) = some A ∧ Hid (∀ j u, (movedL zs i)[j]? = some u → w.drew.cell? (A.add j) = some u) := by
    by_cases h : c = i + 1
    · refine ⟨⟨g, 0, none⟩, by simp [h], fun j u hu => ?_⟩
      have h0 := (List.getElem?_eq_some_iff.1 hu).1
      rw [movedL_len] at h0
      omega
    · refine ⟨⟨g, i + 1, none⟩, by simp [h], fun j u hu => ?_⟩
      obtain ⟨x, hx, rfl⟩ := movedL_get hu
      rw [Addr.add_lit]
      exact hcell _ _ hx
  have s1 : Hid ((movedL zs i).length = (m - i) * 1) := Lib.hid (by rw [Nat.mul_one, movedL_len, hlen]; omega)
  have s2 : Hid (∀ u ∈ movedL zs i, u.oneCell' = true) := by
    intro u hu
    obtain ⟨x, _, rfl⟩ := List.mem_map.1 hu
    rfl
  have s3 : Hid (∀ j, j < (movedL zs i).length → (w.drew.cell? ⟨g, 0 + i * 1 + j, none⟩).isSome = true ∧ w.drew.frozen? ⟨g, 0 + i * 1 + j, none⟩ = false) := by
    intro j hj
    rw [movedL_len] at hj
    rw [Nat.mul_one, Nat.zero_add]
    refine ⟨?_, hfz _⟩
    show (w.cell? _).isSome = true
    rw [hcell (i + j) _ (List.getElem?_eq_getElem (by omega))]
    rfl
  have hcl : ∀ ty, (Builtin.clear_ #[22] ty #[.slice (some ⟨g, m, none⟩) 1 (c - m)]).run Try.prog (w.drew.setCells g i (movedL zs i)) = .ok (.tuple #[]) ((w.drew.setCells g i (movedL zs i)).setCells g m [.int .i64 0]) := by
    intro ty
    refine Lib.run_clear_slice (w.drew.setCells g i (movedL zs i)) 22 2 ty (.int .i64 0) Try.underlying22 (fun w => by kernel_rfl) rfl rfl g m 1 (c - m) (by omega) (fun j hj => ?_) (fun j hj => ?_)
    · obtain rfl : j = 0 := by omega
      rw [Nat.add_zero, World.cell?_setCells_out g _ _ _ _ (fun _ _ => .inr (by rw [movedL_len]; show i + _ ≤ m; omega))]
      show (w.cell? _).isSome = true
      rw [hcell m _ (List.getElem?_eq_getElem (by omega))]
      rfl
    · rw [World.frozen?_setCells]; exact hfz _
  have hfin : Hid (OI ((w.drew.setCells g i (movedL zs i)).setCells g m [.int .i64 0]) g (g + 1) (some ⟨g, 0, none⟩) (zs.eraseIdx i)) := by
    refine .inr ⟨g, 0, rfl, Nat.le_refl _, by omega, ?_, fun j x hx => ?_, fun j => ?_⟩
    · exact Nat.lt_of_lt_of_le hgw (((Kept.refl g (g + 1) w).drew.trans (kept_setCells g _ _ _)).trans (kept_setCells g _ _ _)).size
    · rw [Nat.zero_add]
      have hj : j < (zs.eraseIdx i).length := (List.getElem?_eq_some_iff.1 hx).1
      rw [List.length_eraseIdx, if_pos (by omega)] at hj
      rw [World.cell?_setCells_out g _ _ _ _ (fun _ _ => .inl (by show j < m; omega))]
      rw [List.getElem?_eraseIdx] at hx
      by_cases hji : j < i
      · rw [if_pos hji] at hx
        rw [World.cell?_setCells_out g _ _ _ _ (fun _ _ => .inl hji)]
        exact hcell j x hx
      · rw [if_neg hji] at hx
        have hl : j - i < (movedL zs i).length := by rw [movedL_len]; omega
        have := World.cell?_setCells_in g (movedL zs i) i w.drew (fun j hj => by
          rw [movedL_len] at hj
          show (w.cell? _).isSome = true
          rw [hcell (i + j) _ (List.getElem?_eq_getElem (by omega))]
          rfl) (j - i) hl
        rw [show i + (j - i) = j by omega] at this
        rw [this]
        have hu : (movedL zs i)[j - i]? = some (movedL zs i)[j - i] := List.getElem?_eq_getElem hl
        obtain ⟨y, hy, he⟩ := movedL_get hu
        rw [he]
        rw [show i + 1 + (j - i) = j + 1 by omega, hx] at hy
        injection hy with hy
        rw [hy]
    · rw [World.frozen?_setCells, World.frozen?_setCells]; exact hfz _
  have hkept : Hid (Kept g (g + 1) w ((w.drew.setCells g i (movedL zs i)).setCells g m [.int .i64 0])) := Lib.hid (((Kept.refl g (g + 1) w).drew.trans (kept_setCells g _ _ _)).trans (kept_setCells g _ _ _))
  have hw1 : ((i : Int) == ((i + 1 : Nat) : Int)) = false := by simp; omega
  have hw2 : ((i + 1 : Nat) : Int) ≤ ((m + 1 : Nat) : Int) := by omega
  have hw3 : (i : Int) ≤ ((i + 1 : Nat) : Int) := by omega
  have hw4 : ((m + 1 : Nat) : Int) ≤ (c : Int) := by omega
  have hw5 : 0 ≤ (i : Int) := by omega
  have hw6 : 0 ≤ ((i + 1 : Nat) : Int) := by omega
  have hw7 : i ≤ c := by omega
  have hw8 : i + 1 ≤ m + 1 := by omega
  have hw9 : 0 ≤ (i : Int) + 1 := by omega
  have hw10 : i ≤ m := by omega
  have hsum : i + (m - i) = m := by omega
  have hsumH := Lib.hid hsum
  clear hcell hfz hlen hsum hrow
  go_enter Try.func160, Try.ntmps160
  go_wp2_with fail
  go_region_law (refine step_append_room rfl _ _ 22 rfl 2 i0 1 Try.underlying22 hi0 hz1 g 0 i c (by simp [Act.eval, Act.put]) A (m - i) (c - (i + 1)) (movedL zs i) (by simp [Act.eval, Act.put]) s1.out hnews.out s2.out (by omega) s3.out ?_)
  all_goals
    go_wp2_with (simp only [hcl])
    go_ret
    exact ⟨rfl, hfin.out, hkept.out⟩
end Go.Proofs.Ythpgkngkmmameaa
