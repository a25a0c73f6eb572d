/-
  The contracts of l29Of, l29Code, EquityOf, PlaceOdds. Conditions: at most 1048576 elements.
-/
import Derived.Test.YthpgkngkmmameaaIcmSpec
import Derived.Test.YthpgkngkmmameaaTransfer
namespace Go.Proofs.Ythpgkngkmmameaa
open Go.RowKit
set_option linter.unusedVariables false
theorem getD_all (n j : Nat) : (List.replicate n false).getD j false = false := by
  rw [List.getD, List.getElem?_replicate]
  split <;> rfl
theorem idx_all (n m : Nat) : idxL (List.replicate n false) m = List.range m := by
  unfold idxL
  rw [List.filter_eq_self.2]
  intro j _
  rw [getD_all]
  rfl
theorem keep_all (S : List Int) (n : Nat) : keepL S (List.replicate n false) = S := by
  rw [keep_eq, idx_all]
  apply List.ext_getElem
  · simp
  · intro i h1 h2
    simp [List.getD, List.getElem?_eq_getElem h2]
theorem rank_all (n i : Nat) : rankL (List.replicate n false) i = i := by rw [rank_eq, idx_all, List.length_range]
theorem icmF_all {S P : List Int} {i n : Nat} (hn : S.length = n) (hi : i < n) : icmF P S (List.replicate n false) i = icm P S i := by
  rw [icmF_eq P S _ i (by simp [hn]) (by omega) (getD_all _ _), keep_all, rank_all]
theorem RI.ne {w : World} {A : Option Addr} {zs : List Int} {s : Nat} (h : RI w A zs) (hl : 0 < zs.length) (hs : w.heap.size ≤ s) : ∀ a, A = some a → ¬ a.block = s := by
  rintro a rfl
  rcases h with h | ⟨b, off, e, hb, -⟩
  · subst h; simp at hl
  · injection e with e; subst e; show ¬ b = s; omega
theorem RI.keptS {w w' : World} {A : Option Addr} {zs : List Int} {s : Nat} (h : RI w A zs) (hk : Kept s (s + 1) w w') (hd : ∀ a, A = some a → ¬ a.block = s) : RI w' A zs := by
  rcases h with h | ⟨b, off, h1, h2, h3⟩
  · exact .inl h
  · have hne := hd _ h1
    have hb : w'.heap[b]? = w.heap[b]? := hk.block b h2 (by have : ¬ b = s := hne; omega)
    exact .inr ⟨b, off, h1, Nat.lt_of_lt_of_le h2 hk.size, fun j x hx => (World.cell?_of_block (a := ⟨b, off + j, none⟩) hb).trans (h3 j x hx)⟩
theorem IcOk.small {S P : List Int} {i : Nat} (h : IcOk S P i) : ∀ x ∈ S, 1 ≤ x ∧ x ≤ 1000 := h.s
set_option maxHeartbeats 2000000 in
theorem spec_l29Of_c (S P : List Int) (q : Option (Int × Int)) (s i n c m d : Nat) (A B : Option Addr) (w : World) (hn : S.length = n) (hm : P.length = m) (hok : IcOk S P i) (hst : St w s (cdQ q)) (rS : RI w A S) (rP : RI w B P) (hA : ∀ a, A = some a → ¬ a.block = s) (hB : ∀ a, B = some a → ¬ a.block = s) :
    Calls Try.prog 143 #[.pointer (some ⟨s, 0, none⟩), .slice A n c, .slice B m d, .int .i64 i] w (SR s (q.bind fun _ => icm P S i) w) := by
  obtain ⟨i0, hi, hz0, hz1, hz2⟩ := info_parts info_bool
  have HI := Lib.hid (icmF_all (P := P) (i := i) hn (by have := hok.i; omega))
  have n5 := hok.n
  have l1 := hok.l1
  have l2 := hok.l2
  have li := hok.i
  have HN := Lib.hid hn
  have HM := Lib.hid hm
  have lts := hst.lt
  have n5' : n ≤ 5 := by omega
  clear hn hm
  go_enter Try.func143, Try.ntmps143
  go_wp2_with (at_make; refine wpList_make_full _ rfl _ _ _ rfl w.heap.size 4 i0 _ 1 Try.underlying111 hi hz0 hz1 _ _ _ _ n rfl rfl rfl rfl (by rw [hz2]; omega) (by unfold maxLen; omega) (by simp) ?_; intro w1 hown1 hg1; have RO := Lib.hid hown1; have GR := Lib.hid hg1; clear hown1 hg1)
  clear hi hz0 hz1 hz2
  have b1 : Hid (Below w.heap.size w w1) := Lib.hid ((bel_k0 w (.cells #[.int .i64 0, .int .i64 0] 48)).trans ((Below.refl w.heap.size _).grown GR.out (by simp) (by simp)))
  have hres : Hid (R2 w1 w.heap.size 0 0) := Lib.hid (by
    have := (GR.out.block w.heap.size (by simp) (by simp)).trans (R2.new w 0 0)
    exact this)
  have hrow := Lib.hid (show RowB w1 w.heap.size (some ⟨w.heap.size + 1, 0, none⟩) n n (List.replicate n false) by
    have h1 := RO.out
    rw [Nat.mul_one, show (Value.bool false).cells = #[Value.bool false] from rfl, toList_madeCells_one] at h1
    unfold RowB
    rw [List.map_replicate]
    simpa using h1)
  clear RO GR
  have hrb : Hid (RB w1 (some ⟨w.heap.size + 1, 0, none⟩) (List.replicate n false)) := Lib.hid (by
    obtain ⟨p1, p2, -, p4⟩ := hrow.out.parts
    exact .inr ⟨_, 0, rfl, p2, fun j x hx => by rw [Nat.zero_add]; exact p4 j x hx⟩)
  refine (spec_l29Equity_e P S P (List.replicate n false) q s i 0 n c m d n n A B (some ⟨w.heap.size + 1, 0, none⟩) _ HN.out HM.out (by simp) rfl rfl (by have := HM.out; omega) hok.s (by have := HN.out; omega) hok.p (by have := HN.out; omega) (getD_all _ _) (by have := HM.out; omega) (hst.below b1.out) (rS.below b1.out) (rP.below b1.out) hrb.out hA hB (fun a e => by injection e with e; subst e; show ¬ w.heap.size + 1 = s; omega)).mono ?_
  rintro e w2 ⟨n1, d1, rfl, sq, k2⟩
  rw [HI.out] at sq
  have SQ2 := Lib.hid sq
  have K2 := Lib.hid ((Kept.of_below b1.out s (s + 1)).trans k2)
  have hres2 := Lib.hid (hres.out.kept k2 (by omega))
  obtain ⟨r0, r1, f2, f3⟩ := hres2.out.cells
  clear sq k2 hres hrow hrb b1
  go_wp2_with fail
  refine bodyPost_ret (v := .agg #[.int .i64 n1, .int .i64 d1]) (by simp [results, Try.results143, go_sem, r0, r1]) rfl ?_
  exact ⟨n1, d1, rfl, SQ2.out.two (by show w.heap.size ≠ s; omega) (by show w.heap.size ≠ s; omega), (K2.out.setCell (p := ⟨w.heap.size, 0, none⟩) (.inr (Nat.le_refl _)) _).setCell (p := ⟨w.heap.size, 1, none⟩) (.inr (Nat.le_refl _)) _⟩
/-- The code of a field, prizes and a player. -/
def eqB (S P : List Int) (i : Int) : Int := if prizesB S P = true then (if inB i 0 ((S.length : Int) - 1) = true then 0 else 2) else 1
def eoQ (S P : List Int) (i : Int) : Option (Int × Int) := icm P S i.toNat
def eoN (S P : List Int) (i : Int) : Int := if eqB S P i = 0 then icN (eoQ S P i) else 0
def eoD (S P : List Int) (i : Int) : Int := if eqB S P i = 0 then icD (eoQ S P i) else 0
def eoE (S P : List Int) (i : Int) : Int := if eqB S P i = 0 then icE (eoQ S P i) else eqB S P i
theorem eq_ok {S P : List Int} {i : Int} (h : eqB S P i = 0) : prizesB S P = true ∧ inB i 0 ((S.length : Int) - 1) = true ∧ ∃ k : Nat, i = k ∧ IcOk S P k := by
  unfold eqB at h
  by_cases h1 : prizesB S P = true
  · rw [if_pos h1] at h
    by_cases h2 : inB i 0 ((S.length : Int) - 1) = true
    · obtain ⟨k, rfl, hk⟩ := player_nat h2
      obtain ⟨p1, p2, p3, p4, -⟩ := prizesB_iff.1 h1
      obtain ⟨f1, f2, f3⟩ := fieldB_iff.1 p1
      exact ⟨h1, h2, k, rfl, ⟨f3, f2, p4, p2, p3, hk⟩⟩
    · rw [if_neg h2] at h; exact absurd h (by decide)
  · rw [if_neg h1] at h; exact absurd h (by decide)
theorem q_ic (q : Option (Int × Int)) : qN q = icN q ∧ qD q = icD q ∧ cdQ q = icE q := by cases q <;> exact ⟨rfl, rfl, rfl⟩
set_option maxHeartbeats 2000000 in
theorem impl_EquityOf_c (A : Option Addr) (n c : Nat) (S : List Int) (B : Option Addr) (m d : Nat) (P : List Int) (i : Int) (w : World) (hn : S.length = n) (hm : n ≤ 1048576) (hr : RI w A S) (hn' : P.length = m) (hm' : m ≤ 1048576) (hr' : RI w B P) (hmd : m ≤ d) :
    Calls Try.prog 42 #[.slice A n c, .slice B m d, .int .i64 i] w (RR w (eoN S P i) (eoD S P i) (eoE S P i)) := by
  have HN := Lib.hid hn
  have HN' := Lib.hid hn'
  have res0 := Lib.hid (R2.new w 0 0)
  cases h1 : prizesB S P
  · have HV : Hid (eoN S P i = 0 ∧ eoD S P i = 0 ∧ eoE S P i = 1) := Lib.hid (by simp [eoN, eoD, eoE, eqB, h1])
    clear hn hn'
    go_enter Try.func42, Try.ntmps42
    go_wp2_with fail
    refine (impl_ArePrizes_b _ _ _ S _ _ _ P _ HN.out hm (RI.al hr _) HN'.out hm' (RI.al hr' _)).mono ?_
    rintro e w1 ⟨rfl, b1⟩
    rw [h1]
    have BW1 := Lib.hid ((below_al w (.cells #[.int .i64 0, .int .i64 0] 48)).trans (b1.mono (by simp)))
    have res1 := Lib.hid (res0.out.below b1)
    obtain ⟨r0, r1, f2, f3⟩ := res1.out.cells
    clear b1 h1
    go_wp2_with fail
    refine bodyPost_ret (v := .tuple #[.agg #[.int .i64 0, .int .i64 0], .int .i64 1]) (by simp [results, Try.results42, go_sem, r0, r1]) rfl ?_
    exact RR.mk HV.out.1.symm HV.out.2.1.symm HV.out.2.2.symm ((BW1.out.setCell (p := ⟨w.heap.size, 0, none⟩) (Nat.le_refl _) _).setCell (p := ⟨w.heap.size, 1, none⟩) (Nat.le_refl _) _)
  · cases h2 : inB i 0 ((n : Int) - 1)
    · have HV : Hid (eoN S P i = 0 ∧ eoD S P i = 0 ∧ eoE S P i = 2) := Lib.hid (by simp [eoN, eoD, eoE, eqB, h1, hn, h2])
      clear hn hn'
      go_enter Try.func42, Try.ntmps42
      go_wp2_with fail
      refine (impl_ArePrizes_b _ _ _ S _ _ _ P _ HN.out hm (RI.al hr _) HN'.out hm' (RI.al hr' _)).mono ?_
      rintro e w1 ⟨rfl, b1⟩
      rw [h1]
      have BW1 := Lib.hid ((below_al w (.cells #[.int .i64 0, .int .i64 0] 48)).trans (b1.mono (by simp)))
      have res1 := Lib.hid (res0.out.below b1)
      obtain ⟨r0, r1, f2, f3⟩ := res1.out.cells
      clear b1 h1
      go_wp2_with (go_at_call 105; refine (impl_isPlayer_c _ _ _ _ _ hm).mono ?_; rintro e w' ⟨rfl, rfl⟩)
      refine bodyPost_ret (v := .tuple #[.agg #[.int .i64 0, .int .i64 0], .int .i64 2]) (by simp [results, Try.results42, go_sem, r0, r1]) rfl ?_
      exact RR.mk HV.out.1.symm HV.out.2.1.symm HV.out.2.2.symm ((BW1.out.setCell (p := ⟨w.heap.size, 0, none⟩) (Nat.le_refl _) _).setCell (p := ⟨w.heap.size, 1, none⟩) (Nat.le_refl _) _)
    · have h0 : eqB S P i = 0 := by simp [eqB, h1, hn, h2]
      obtain ⟨-, -, k, rfl, hok⟩ := eq_ok h0
      have HV : Hid (eoN S P k = icN (icm P S k) ∧ eoD S P k = icD (icm P S k) ∧ eoE S P k = icE (icm P S k)) := Lib.hid (by
        refine ⟨?_, ?_, ?_⟩
        · unfold eoN; rw [if_pos h0]; rfl
        · unfold eoD; rw [if_pos h0]; rfl
        · unfold eoE; rw [if_pos h0]; rfl)
      clear hn hn' h0
      go_enter Try.func42, Try.ntmps42
      go_wp2_with fail
      refine (impl_ArePrizes_b _ _ _ S _ _ _ P _ HN.out hm (RI.al hr _) HN'.out hm' (RI.al hr' _)).mono ?_
      rintro e w1 ⟨rfl, b1⟩
      rw [h1]
      have BW1 := Lib.hid ((below_al w (.cells #[.int .i64 0, .int .i64 0] 48)).trans (b1.mono (by simp)))
      have res1 := Lib.hid (res0.out.below b1)
      clear b1 h1
      go_wp2_with (go_at_call 105; refine (impl_isPlayer_c _ _ _ _ _ hm).mono ?_; rintro e w' ⟨rfl, rfl⟩)
      refine (impl_equityIn_c S P k n c m d A B _ HN.out HN'.out hmd hok (hr.below BW1.out) (hr'.below BW1.out)).mono ?_
      rintro e w3 ⟨rfl, b3⟩
      have res3 := Lib.hid (res1.out.below b3)
      have BW3 := Lib.hid (below_step BW1.out b3 BW1.out.size)
      obtain ⟨r0, r1, f2, f3⟩ := res3.out.cells
      clear b3
      go_wp2_with fail
      refine bodyPost_ret (v := .tuple #[.agg #[.int .i64 (icN (icm P S k)), .int .i64 (icD (icm P S k))], .int .i64 (icE (icm P S k))]) (by simp [results, Try.results42, go_sem, r0, r1]) rfl ?_
      exact RR.mk HV.out.1.symm HV.out.2.1.symm HV.out.2.2.symm ((BW3.out.setCell (p := ⟨w.heap.size, 0, none⟩) (Nat.le_refl _) _).setCell (p := ⟨w.heap.size, 1, none⟩) (Nat.le_refl _) _)
end Go.Proofs.Ythpgkngkmmameaa
