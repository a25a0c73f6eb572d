/-
  The contracts of PlaceOdds. Conditions: at most 1048576 elements.
-/
import Derived.Test.YtoibjedpniepbaaIcmTop
namespace Go.Proofs.Ytoibjedpniepbaa
open Go.RowKit
set_option linter.unusedVariables false
def poB (S : List Int) (p k : Int) : Int := if fieldB S = true then (if inB p 0 ((S.length : Int) - 1) = true ∧ inB k 0 ((S.length : Int) - 1) = true then 0 else 2) else 1
def poQ (S : List Int) (p k : Int) : Option (Int × Int) := icm (unitL k.toNat) S p.toNat
def poN (S : List Int) (p k : Int) : Int := if poB S p k = 0 then icN (poQ S p k) else 0
def poD (S : List Int) (p k : Int) : Int := if poB S p k = 0 then icD (poQ S p k) else 0
def poE (S : List Int) (p k : Int) : Int := if poB S p k = 0 then icE (poQ S p k) else poB S p k
theorem unit_len (k : Nat) : (unitL k).length = k + 1 := by simp [unitL]
theorem unit_set (k : Nat) : (List.replicate (k + 1) (0 : Int)).set k 1 = unitL k := by
  apply List.ext_getElem
  · simp [unitL]
  · intro i h1 h2
    rw [List.getElem_set]
    simp only [unitL, List.getElem_append, List.getElem_replicate, List.length_replicate]
    simp at h1
    by_cases h : k = i
    · subst h; simp
    · rw [if_neg h, dif_pos (by omega)]
theorem unit_ok {S : List Int} {i k : Nat} (hF : fieldB S = true) (hi : i < S.length) (hk : k < S.length) : IcOk S (unitL k) i := by
  obtain ⟨f1, f2, f3⟩ := fieldB_iff.1 hF
  refine ⟨f3, f2, fun x hx => ?_, by rw [unit_len]; omega, by rw [unit_len]; omega, hi⟩
  unfold unitL at hx
  rcases List.mem_append.1 hx with h | h
  · have := List.eq_of_mem_replicate h; omega
  · simp at h; omega
theorem po_ok {S : List Int} {p k : Int} (h : poB S p k = 0) : fieldB S = true ∧ inB p 0 ((S.length : Int) - 1) = true ∧ inB k 0 ((S.length : Int) - 1) = true ∧ ∃ i j : Nat, p = i ∧ k = j ∧ j < S.length ∧ IcOk S (unitL j) i := by
  unfold poB at h
  by_cases h1 : fieldB S = true
  · rw [if_pos h1] at h
    by_cases h2 : inB p 0 ((S.length : Int) - 1) = true ∧ inB k 0 ((S.length : Int) - 1) = true
    · obtain ⟨i, rfl, hi⟩ := player_nat h2.1
      obtain ⟨j, rfl, hj⟩ := player_nat h2.2
      exact ⟨h1, h2.1, h2.2, i, j, rfl, rfl, hj, unit_ok h1 hi hj⟩
    · rw [if_neg h2] at h; exact absurd h (by decide)
  · rw [if_neg h1] at h; exact absurd h (by decide)
theorem unit_row {w1 w2 : World} {k H : Nat} (hH : w1.heap.size = H) (hown : w2.ownsRow w1.heap.size 2 1 (.slice (some ⟨w1.heap.size, 0, none⟩) (k + 1) (k + 1)) (k + 1) (madeCells (Value.int .i64 0).cells ((k + 1) * 1)).toList) :
    (∃ y : Int, w2.cell? ⟨H, k, none⟩ = some (.int .i64 y)) ∧ w2.frozen? ⟨H, k, none⟩ = false ∧ RI (w2.setCell ⟨H, k, none⟩ (.int .i64 1)) (some ⟨H, 0, none⟩) (unitL k) := by
  subst hH
  rw [Nat.mul_one, show (Value.int IntKind.i64 0).cells = #[Value.int IntKind.i64 0] from rfl, toList_madeCells_one, show List.replicate (k + 1) (Value.int IntKind.i64 0) = (List.replicate (k + 1) (0 : Int)).map (.int .i64) from by simp] at hown
  have ho := OI.of_row hown
  obtain ⟨h1, h2⟩ := OI.at_ ho (j := k) (by simp)
  have h3 := OI.set ho (j := k) (by simp) 1
  rw [Nat.zero_add] at h1 h2 h3
  rw [unit_set] at h3
  exact ⟨h1, h2, h3.ri⟩
set_option maxRecDepth 100000 in
set_option maxHeartbeats 2000000 in
theorem spec_PlaceOdds_c (A : Option Addr) (n c : Nat) (S : List Int) (p k : Int) (w : World) (hn : S.length = n) (hm : n ≤ 1048576) (hr : RI w A S) :
    Calls Try.prog 33 #[.slice A n c, .int .i64 p, .int .i64 k] w (RR w (poN S p k) (poD S p k) (poE S p k)) := by
  have HN := Lib.hid hn
  have res0 := Lib.hid (R2.new w 0 0)
  cases h1 : fieldB S
  · have HV : Hid (poN S p k = 0 ∧ poD S p k = 0 ∧ poE S p k = 1) := Lib.hid (by simp [poN, poD, poE, poB, h1])
    obtain ⟨r0, r1, f2, f3⟩ := res0.out.cells
    clear hn
    go_enter Try.func33, Try.ntmps33
    go_wp2_with (go_at_call 15; refine (spec_IsField_c _ _ _ S _ HN.out hm (RI.al hr _)).mono ?_; rintro e w' ⟨rfl, rfl⟩)
    refine bodyPost_ret (v := .tuple #[.agg #[.int .i64 0, .int .i64 0], .int .i64 1]) (by simp [results, Try.results33, go_sem, r0, r1]) rfl ?_
    exact RR.mk HV.out.1.symm HV.out.2.1.symm HV.out.2.2.symm (below_al w _)
  · cases h2 : inB p 0 ((n : Int) - 1)
    · have HV : Hid (poN S p k = 0 ∧ poD S p k = 0 ∧ poE S p k = 2) := Lib.hid (by simp [poN, poD, poE, poB, h1, hn, h2])
      obtain ⟨r0, r1, f2, f3⟩ := res0.out.cells
      clear hn
      go_enter Try.func33, Try.ntmps33
      go_wp2_with (first
        | (go_at_call 15; refine (spec_IsField_c _ _ _ S _ HN.out hm (RI.al hr _)).mono ?_; rintro e w' ⟨rfl, rfl⟩)
        | (go_at_call 66; refine (spec_l29Player_c _ _ _ _ _ hm).mono ?_; rintro e w' ⟨rfl, rfl⟩))
      refine bodyPost_ret (v := .tuple #[.agg #[.int .i64 0, .int .i64 0], .int .i64 2]) (by simp [results, Try.results33, go_sem, r0, r1]) rfl ?_
      exact RR.mk HV.out.1.symm HV.out.2.1.symm HV.out.2.2.symm (below_al w _)
    · cases h3 : inB k 0 ((n : Int) - 1)
      · have HV : Hid (poN S p k = 0 ∧ poD S p k = 0 ∧ poE S p k = 2) := Lib.hid (by simp [poN, poD, poE, poB, h1, hn, h2, h3])
        obtain ⟨r0, r1, f2, f3⟩ := res0.out.cells
        clear hn
        go_enter Try.func33, Try.ntmps33
        go_wp2_with (first
          | (go_at_call 15; refine (spec_IsField_c _ _ _ S _ HN.out hm (RI.al hr _)).mono ?_; rintro e w' ⟨rfl, rfl⟩)
          | (go_at_call 66; refine (spec_l29Player_c _ _ _ _ _ hm).mono ?_; rintro e w' ⟨rfl, rfl⟩))
        refine bodyPost_ret (v := .tuple #[.agg #[.int .i64 0, .int .i64 0], .int .i64 2]) (by simp [results, Try.results33, go_sem, r0, r1]) rfl ?_
        exact RR.mk HV.out.1.symm HV.out.2.1.symm HV.out.2.2.symm (below_al w _)
      · have h0 : poB S p k = 0 := by simp [poB, h1, hn, h2, h3]
        obtain ⟨-, -, -, i, j, rfl, rfl, hj, hok⟩ := po_ok h0
        have HV : Hid (poN S i j = qN (icm (unitL j) S i) ∧ poD S i j = qD (icm (unitL j) S i) ∧ poE S i j = cdQ (icm (unitL j) S i)) := Lib.hid (by
          obtain ⟨q1, q2, q3⟩ := q_ic (icm (unitL j) S i)
          refine ⟨?_, ?_, ?_⟩
          · unfold poN; rw [if_pos h0, q1]; rfl
          · unfold poD; rw [if_pos h0, q2]; rfl
          · unfold poE; rw [if_pos h0, q3]; rfl)
        obtain ⟨i0, hi, hz0, hz1, hz2⟩ := info_parts info_int
        have hS := hok.i
        have n5 := hok.n
        have j1 : (j : Int) < (j : Int) + 1 := by omega
        have j2 : (0 : Int) ≤ (j : Int) := by omega
        have j3 : (j : Int) ≤ 5 := by omega
        clear hn h0
        go_enter Try.func33, Try.ntmps33
        go_wp2_with (first
          | (go_at_call 15; refine (spec_IsField_c _ _ _ S _ HN.out hm (RI.al hr _)).mono ?_; rintro e w' ⟨rfl, rfl⟩)
          | (go_at_call 66; refine (spec_l29Player_c _ _ _ _ _ hm).mono ?_; rintro e w' ⟨rfl, rfl⟩)
          | (at_make; refine wpList_make_full _ rfl _ _ _ rfl (w.alloc (.cells #[.int .i64 0, .int .i64 0] 31)).heap.size 2 i0 _ 1 Try.underlying22 hi hz0 hz1 _ _ _ _ (j + 1) rfl rfl (by omega) (by omega) (by rw [hz2]; omega) (by unfold maxLen; omega) (Nat.le_refl _) ?_; intro w1 hown1 hg1; obtain ⟨⟨y, hcy⟩, hfy, hru⟩ := unit_row (H := w.heap.size + 1) (by simp) hown1; have RU := Lib.hid hru; have B1 : Hid (Below w.heap.size w w1) := Lib.hid ((below_al w (.cells #[.int .i64 0, .int .i64 0] 31)).trans ((Below.refl w.heap.size _).grown hg1 (by simp) (by simp))); have res1 : Hid (R2 w1 w.heap.size 0 0) := Lib.hid ((hg1.block w.heap.size (by simp) (by simp)).trans (R2.new w 0 0)); clear hown1 hg1 hru))
        have W1 : Hid (Below w.heap.size w (w1.setCell ⟨w.heap.size + 1, j, none⟩ (.int .i64 1))) := Lib.hid (B1.out.setCell (by simp) _)
        have res2 : Hid (R2 (w1.setCell ⟨w.heap.size + 1, j, none⟩ (.int .i64 1)) w.heap.size 0 0) := Lib.hid (res1.out.far (by simp) _)
        have gz := RU.out.ne (s := (w1.setCell ⟨w.heap.size + 1, j, none⟩ (.int .i64 1)).heap.size) (by rw [unit_len]; omega) (Nat.le_refl _)
        obtain ⟨w2, hw2⟩ : ∃ w2 : World, w2 = (w1.setCell ⟨w.heap.size + 1, j, none⟩ (.int .i64 1)) := ⟨_, rfl⟩
        have hsz : w1.heap.size = w2.heap.size := by rw [hw2]; simp [World.setCell]
        rw [← hw2] at RU W1 res2 gz
        rw [← hw2, hsz]
        clear hw2 hsz hcy hfy
        have s2 := W1.out.size
        have l2 := res2.out.lt
        refine (spec_l29Of_c S (unitL j) (some (0, 1)) w2.heap.size i n c (j + 1) (j + 1) A _ _ HN.out (unit_len j) hok (St.new w2 0) ((hr.below W1.out).al _) (RU.out.al _) (hr.ne (by omega) s2) gz).mono ?_
        rintro e w3 ⟨n1, d1, rfl, sq, k2⟩
        have SQ3 : Hid (SQ w3 w2.heap.size (icm (unitL j) S i) n1 d1) := Lib.hid sq
        have res3 := Lib.hid ((res2.out.below (below_al w2 _)).kept k2 (by omega))
        have BW3 := Lib.hid ((below_step W1.out (below_al w2 _) s2).trans (k2.below s2 (by simp; omega)))
        clear sq k2
        go_wp2_with fail
        refine (spec_l19Result_c w2.heap.size _ n1 d1 _ SQ3.out).mono ?_
        rintro e w4 ⟨rfl, b4⟩
        have res4 := Lib.hid (res3.out.below b4)
        have BW4 := Lib.hid (below_step BW3.out b4 BW3.out.size)
        obtain ⟨r0, r1, f2, f3⟩ := res4.out.cells
        clear b4
        go_wp2_with fail
        refine bodyPost_ret (v := .tuple #[.agg #[.int .i64 (qN (icm (unitL j) S i)), .int .i64 (qD (icm (unitL j) S i))], .int .i64 (cdQ (icm (unitL j) S i))]) (by simp [results, Try.results33, go_sem, r0, r1]) rfl ?_
        exact RR.mk HV.out.1.symm HV.out.2.1.symm HV.out.2.2.symm ((BW4.out.setCell (p := ⟨w.heap.size, 0, none⟩) (Nat.le_refl _) _).setCell (p := ⟨w.heap.size, 1, none⟩) (Nat.le_refl _) _)
set_option maxRecDepth 100000 in
set_option maxHeartbeats 2000000 in
theorem impl_PlaceOdds_c (A : Option Addr) (n c : Nat) (S : List Int) (p k : Int) (w : World) (hn : S.length = n) (hm : n ≤ 1048576) (hr : RI w A S) :
    Calls Try.prog 34 #[.slice A n c, .int .i64 p, .int .i64 k] w (RR w (poN S p k) (poD S p k) (poE S p k)) := by
  have HN := Lib.hid hn
  have res0 := Lib.hid (R2.new w 0 0)
  cases h1 : fieldB S
  · have HV : Hid (poN S p k = 0 ∧ poD S p k = 0 ∧ poE S p k = 1) := Lib.hid (by simp [poN, poD, poE, poB, h1])
    obtain ⟨r0, r1, f2, f3⟩ := res0.out.cells
    clear hn
    go_enter Try.func34, Try.ntmps34
    go_wp2_with (go_at_call 17; refine (impl_IsField_c _ _ _ S _ HN.out hm (RI.al hr _)).mono ?_; rintro e w' ⟨rfl, rfl⟩)
    refine bodyPost_ret (v := .tuple #[.agg #[.int .i64 0, .int .i64 0], .int .i64 1]) (by simp [results, Try.results34, go_sem, r0, r1]) rfl ?_
    exact RR.mk HV.out.1.symm HV.out.2.1.symm HV.out.2.2.symm (below_al w _)
  · cases h2 : inB p 0 ((n : Int) - 1)
    · have HV : Hid (poN S p k = 0 ∧ poD S p k = 0 ∧ poE S p k = 2) := Lib.hid (by simp [poN, poD, poE, poB, h1, hn, h2])
      obtain ⟨r0, r1, f2, f3⟩ := res0.out.cells
      clear hn
      go_enter Try.func34, Try.ntmps34
      go_wp2_with (first
        | (go_at_call 17; refine (impl_IsField_c _ _ _ S _ HN.out hm (RI.al hr _)).mono ?_; rintro e w' ⟨rfl, rfl⟩)
        | (go_at_call 58; refine (impl_isPlayer_c _ _ _ _ _ hm).mono ?_; rintro e w' ⟨rfl, rfl⟩))
      refine bodyPost_ret (v := .tuple #[.agg #[.int .i64 0, .int .i64 0], .int .i64 2]) (by simp [results, Try.results34, go_sem, r0, r1]) rfl ?_
      exact RR.mk HV.out.1.symm HV.out.2.1.symm HV.out.2.2.symm (below_al w _)
    · cases h3 : inB k 0 ((n : Int) - 1)
      · have HV : Hid (poN S p k = 0 ∧ poD S p k = 0 ∧ poE S p k = 2) := Lib.hid (by simp [poN, poD, poE, poB, h1, hn, h2, h3])
        obtain ⟨r0, r1, f2, f3⟩ := res0.out.cells
        clear hn
        go_enter Try.func34, Try.ntmps34
        go_wp2_with (first
          | (go_at_call 17; refine (impl_IsField_c _ _ _ S _ HN.out hm (RI.al hr _)).mono ?_; rintro e w' ⟨rfl, rfl⟩)
          | (go_at_call 58; refine (impl_isPlayer_c _ _ _ _ _ hm).mono ?_; rintro e w' ⟨rfl, rfl⟩))
        refine bodyPost_ret (v := .tuple #[.agg #[.int .i64 0, .int .i64 0], .int .i64 2]) (by simp [results, Try.results34, go_sem, r0, r1]) rfl ?_
        exact RR.mk HV.out.1.symm HV.out.2.1.symm HV.out.2.2.symm (below_al w _)
      · have h0 : poB S p k = 0 := by simp [poB, h1, hn, h2, h3]
        obtain ⟨-, -, -, i, j, rfl, rfl, hj, hok⟩ := po_ok h0
        have HV : Hid (poN S i j = icN (icm (unitL j) S i) ∧ poD S i j = icD (icm (unitL j) S i) ∧ poE S i j = icE (icm (unitL j) S i)) := Lib.hid (by
          refine ⟨?_, ?_, ?_⟩
          · unfold poN; rw [if_pos h0]; rfl
          · unfold poD; rw [if_pos h0]; rfl
          · unfold poE; rw [if_pos h0]; rfl)
        obtain ⟨i0, hi, hz0, hz1, hz2⟩ := info_parts info_int
        have hS := hok.i
        have n5 := hok.n
        have j1 : (j : Int) < (j : Int) + 1 := by omega
        have j2 : (0 : Int) ≤ (j : Int) := by omega
        have j3 : (j : Int) ≤ 5 := by omega
        clear hn h0
        go_enter Try.func34, Try.ntmps34
        go_wp2_with (first
          | (go_at_call 17; refine (impl_IsField_c _ _ _ S _ HN.out hm (RI.al hr _)).mono ?_; rintro e w' ⟨rfl, rfl⟩)
          | (go_at_call 58; refine (impl_isPlayer_c _ _ _ _ _ hm).mono ?_; rintro e w' ⟨rfl, rfl⟩)
          | (at_make; refine wpList_make_full _ rfl _ _ _ rfl (w.alloc (.cells #[.int .i64 0, .int .i64 0] 31)).heap.size 2 i0 _ 1 Try.underlying22 hi hz0 hz1 _ _ _ _ (j + 1) rfl rfl (by omega) (by omega) (by rw [hz2]; omega) (by unfold maxLen; omega) (Nat.le_refl _) ?_; intro w1 hown1 hg1; obtain ⟨⟨y, hcy⟩, hfy, hru⟩ := unit_row (H := w.heap.size + 1) (by simp) hown1; have RU := Lib.hid hru; have B1 : Hid (Below w.heap.size w w1) := Lib.hid ((below_al w (.cells #[.int .i64 0, .int .i64 0] 31)).trans ((Below.refl w.heap.size _).grown hg1 (by simp) (by simp))); have res1 : Hid (R2 w1 w.heap.size 0 0) := Lib.hid ((hg1.block w.heap.size (by simp) (by simp)).trans (R2.new w 0 0)); clear hown1 hg1 hru))
        have W1 : Hid (Below w.heap.size w (w1.setCell ⟨w.heap.size + 1, j, none⟩ (.int .i64 1))) := Lib.hid (B1.out.setCell (by simp) _)
        have res2 : Hid (R2 (w1.setCell ⟨w.heap.size + 1, j, none⟩ (.int .i64 1)) w.heap.size 0 0) := Lib.hid (res1.out.far (by simp) _)
        obtain ⟨w2, hw2⟩ : ∃ w2 : World, w2 = (w1.setCell ⟨w.heap.size + 1, j, none⟩ (.int .i64 1)) := ⟨_, rfl⟩
        have hsz : w1.heap.size = w2.heap.size := by rw [hw2]; simp [World.setCell]
        rw [← hw2] at RU W1 res2
        rw [← hw2]
        clear hw2 hsz hcy hfy
        refine (impl_equityIn_c S (unitL j) i n c (j + 1) (j + 1) A _ _ HN.out (unit_len j) (Nat.le_refl _) hok (hr.below W1.out) RU.out).mono ?_
        rintro e w4 ⟨rfl, b4⟩
        have res4 := Lib.hid (res2.out.below b4)
        have BW4 := Lib.hid (below_step W1.out b4 W1.out.size)
        obtain ⟨r0, r1, f2, f3⟩ := res4.out.cells
        clear b4
        go_wp2_with fail
        refine bodyPost_ret (v := .tuple #[.agg #[.int .i64 (icN (icm (unitL j) S i)), .int .i64 (icD (icm (unitL j) S i))], .int .i64 (icE (icm (unitL j) S i))]) (by simp [results, Try.results34, go_sem, r0, r1]) rfl ?_
        exact RR.mk HV.out.1.symm HV.out.2.1.symm HV.out.2.2.symm ((BW4.out.setCell (p := ⟨w.heap.size, 0, none⟩) (Nat.le_refl _) _).setCell (p := ⟨w.heap.size, 1, none⟩) (Nat.le_refl _) _)
end Go.Proofs.Ytoibjedpniepbaa
