/-
  The contracts of fieldEquities, l26List, FieldEquities. Conditions: at most 1048576 elements.
-/
import Derived.Test.YthpgkngkmmameaaIcmTop
import Derived.Test.YthpgkngkmmameaaRats
namespace Go.Proofs.Ythpgkngkmmameaa
open Go.RowKit
set_option linter.unusedVariables false
/-- The equities of the first k players, or none. -/
def feK (S P : List Int) : Nat → Option (List (Int × Int))
  | 0 => some []
  | k + 1 => (feK S P k).bind fun l => (icm P S k).map fun q => l ++ [q]
def feL (S P : List Int) : List (Int × Int) := if prizesB S P = true then (feK S P S.length).getD [] else []
def feE (S P : List Int) : Int := if prizesB S P = true then (if (feK S P S.length).isSome = true then 0 else 3) else 1
theorem feK_len {S P : List Int} {k : Nat} {l : List (Int × Int)} (h : feK S P k = some l) : l.length = k := by
  induction k generalizing l with
  | zero => simp [feK] at h; subst h; rfl
  | succ k ih =>
    simp only [feK] at h
    cases h1 : feK S P k with
    | none => rw [h1] at h; simp at h
    | some l1 =>
      rw [h1] at h
      cases h2 : icm P S k with
      | none => rw [h2] at h; simp at h
      | some q =>
        rw [h2] at h
        simp at h
        subst h
        simp [ih h1]
theorem feK_none {S P : List Int} {k j : Nat} (h : feK S P k = none) (hkj : k ≤ j) : feK S P j = none := by
  induction j with
  | zero => obtain rfl : k = 0 := by omega
            exact h
  | succ j ih =>
    by_cases hk : k = j + 1
    · subst hk; exact h
    · simp only [feK]; rw [ih (by omega)]; rfl
theorem feK_get {S P : List Int} {k j : Nat} {l : List (Int × Int)} (h : feK S P k = some l) (hj : j < k) : ∃ q, icm P S j = some q ∧ l[j]? = some q := by
  induction k generalizing l with
  | zero => omega
  | succ k ih =>
    simp only [feK] at h
    cases h1 : feK S P k with
    | none => rw [h1] at h; simp at h
    | some l1 =>
      rw [h1] at h
      cases h2 : icm P S k with
      | none => rw [h2] at h; simp at h
      | some q =>
        rw [h2] at h
        simp at h
        subst h
        have hl := feK_len h1
        by_cases hjk : j = k
        · subst hjk
          exact ⟨q, h2, by rw [List.getElem?_append_right (by omega), hl, Nat.sub_self]; rfl⟩
        · obtain ⟨q', e1, e2⟩ := ih h1 (by omega)
          exact ⟨q', e1, by rw [List.getElem?_append_left (by omega)]; exact e2⟩
theorem prizes_ok {S P : List Int} {i : Nat} (h1 : prizesB S P = true) (hi : i < S.length) : IcOk S P i := by
  obtain ⟨p1, p2, p3, p4, -⟩ := prizesB_iff.1 h1
  obtain ⟨f1, f2, f3⟩ := fieldB_iff.1 p1
  exact ⟨f3, f2, p4, p2, p3, hi⟩
theorem RowQ.keptS {w w' : World} {base s : Nat} {A : Option Addr} {n c : Nat} {qs : List (Int × Int)} (h : RowQ w base A n c qs) (hk : Kept s (s + 1) w w') (hs : s < base) : RowQ w' base A n c qs := by
  refine World.ownsRow.kept (row := some s) h ⟨hk.os, hk.tape, hk.output, hk.size, fun k hk1 hne => hk.block k hk1 (fun ⟨a, b⟩ => hne (by congr 1; omega))⟩ ?_
  cases hv : (Value.slice A n c).ownBlock with
  | none => exact .inl rfl
  | some g =>
    have := (World.ownsRow.lt h g hv).1
    exact .inr (by intro e; injection e with e; omega)
theorem St.belowB {w w' : World} {s base : Nat} {c : Int} (h : St w s c) (hb : Below base w w') (hs : s < base) : St w' s c := (hb.block s hs).trans h
set_option maxRecDepth 100000 in
set_option maxHeartbeats 2000000 in
theorem impl_fieldEquities_c (A : Option Addr) (n c : Nat) (S : List Int) (B : Option Addr) (m d : Nat) (P : List Int) (w : World) (hn : S.length = n) (hr : RI w A S) (hn' : P.length = m) (hr' : RI w B P) (hmd : m ≤ d) (h1 : prizesB S P = true) :
    Calls Try.prog 145 #[.slice A n c, .slice B m d] w (LQ w (feL S P) (feE S P)) := by
  have HN := Lib.hid hn
  have HN' := Lib.hid hn'
  have n5 : n ≤ 5 := by rw [← hn]; exact (fieldB_iff.1 (prizesB_iff.1 h1).1).2.1
  have H1 := Lib.hid h1
  clear hn hn' h1
  go_enter Try.func145, Try.ntmps145
  go_wp2_with fail
  go_loopw [6, 12] (fun t u wr => ∃ (k c' : Nat) (G : Option Addr) (qs : List (Int × Int)), t = .slice G k c' ∧ u = .int .i64 k ∧ k ≤ n ∧ Hid (feK S P k = some qs) ∧ Hid (RowQ wr w.heap.size G k c' qs) ∧ Hid (Below w.heap.size w wr)) (fun _ u _ => n - (intOf u).toNat)
  case atStart => exact ⟨0, 0, none, [], rfl, rfl, Nat.zero_le _, Lib.hid rfl, Lib.hid (RowQ.nil _ _), Lib.hid (Below.refl _ _)⟩
  case round =>
    obtain ⟨k, c', G, qs, rfl, rfl, hk, hfe, hrow, hbw⟩ := hrel
    by_cases hlt : k < n
    · have i1 : (k : Int) < (n : Int) := by omega
      have i2 : (0 : Int) ≤ (k : Int) := by omega
      have hok := prizes_ok H1.out (i := k) (by rw [HN.out]; exact hlt)
      go_wp2_with fail
      refine (impl_equityIn_c S P k n c m d A B _ HN.out HN'.out hmd hok (hr.below hbw.out) (hr'.below hbw.out)).mono ?_
      rintro e w2 ⟨rfl, b2⟩
      have hrow2 := Lib.hid (hrow.out.below b2)
      have hbw2 := Lib.hid (below_step hbw.out b2 hbw.out.size)
      have sz2 := hbw2.out.size
      clear b2 hrow hbw
      rcases hic : icm P S k with _ | ⟨N, D⟩
      · rw [show icN none = 0 from rfl, show icD none = 0 from rfl, show icE none = 3 from rfl]
        have HV : Hid (feL S P = [] ∧ feE S P = 3) := Lib.hid (by
          have e : feK S P (k + 1) = none := by simp only [feK]; rw [hfe.out, hic]; rfl
          have e2 := feK_none (j := S.length) e (by rw [HN.out]; omega)
          unfold feL feE
          rw [if_pos H1.out, if_pos H1.out, e2]
          exact ⟨rfl, rfl⟩)
        clear hic
        go_wp2_with fail
        go_ret2
        rw [HV.out.1, HV.out.2]
        exact LQ.mk rfl rfl (Nat.zero_le _) (OQ.nil _ _ _ _) (hbw2.out.alloc sz2 _)
      · rw [show icN (some (N, D)) = N from rfl, show icD (some (N, D)) = D from rfl, show icE (some (N, D)) = 0 from rfl]
        have HF := Lib.hid (show feK S P (k + 1) = some (qs ++ [(N, D)]) by simp only [feK]; rw [hfe.out, hic]; rfl)
        clear hic
        have hrow3 := Lib.hid ((hrow2.out.alloc (.cells #[.int .i64 N, .int .i64 D] 48)).alloc (.cells #[.int .i64 N, .int .i64 D] 48))
        go_wp2_with (at_builtin; refine wpList_appendQ rfl _ _ rfl w.heap.size G k c' qs rfl hrow3.out (w2.heap.size + 1) 1 N D rfl (by simp) (by simp) (by omega) (by simp; omega) ?_; intro g5 c5 w5 hr5 hb5 hg5; have HR5 := Lib.hid hr5; have HB5 := Lib.hid (((hbw2.out.alloc sz2 (.cells #[.int .i64 N, .int .i64 D] 48)).alloc (by simp; omega) (.cells #[.int .i64 N, .int .i64 D] 48)).trans hb5); clear hr5 hb5 hg5)
        go_roundw
        case rel => exact ⟨k + 1, c5, _, _, rfl, by go_num, by omega, HF, HR5, HB5⟩
        case measure => simp [intOf]; omega
    · have hke : k = S.length := by rw [HN.out]; omega
      have HV : Hid (feL S P = qs ∧ feE S P = 0) := Lib.hid (by
        unfold feL feE
        rw [if_pos H1.out, if_pos H1.out, ← hke, hfe.out]
        exact ⟨rfl, rfl⟩)
      clear hke
      go_wp2_with fail
      go_ret2
      rw [HV.out.1, HV.out.2]
      exact LQ.mk rfl hrow.out.length (by omega) hrow.out.oq hbw.out
theorem impl_FieldEquities_c (A : Option Addr) (n c : Nat) (S : List Int) (B : Option Addr) (m d : Nat) (P : List Int) (w : World) (hn : S.length = n) (hm : n ≤ 1048576) (hr : RI w A S) (hn' : P.length = m) (hm' : m ≤ 1048576) (hr' : RI w B P) (hmd : m ≤ d) :
    Calls Try.prog 86 #[.slice A n c, .slice B m d] w (LQ w (feL S P) (feE S P)) := by
  have HN := Lib.hid hn
  have HN' := Lib.hid hn'
  clear hn hn'
  cases h1 : prizesB S P
  · have HV : Hid (feL S P = [] ∧ feE S P = 1) := Lib.hid (by simp [feL, feE, h1])
    go_enter Try.func86, Try.ntmps86
    go_wp2_with fail
    refine (impl_ArePrizes_b _ _ _ S _ _ _ P _ HN.out hm hr HN'.out hm' hr').mono ?_
    rintro e w1 ⟨rfl, b1⟩
    rw [h1]
    clear h1
    go_wp2_with fail
    go_ret2
    rw [HV.out.1, HV.out.2]
    exact LQ.mk rfl rfl (Nat.zero_le _) (OQ.nil _ _ _ _) b1
  · have H1 := Lib.hid h1
    go_enter Try.func86, Try.ntmps86
    go_wp2_with fail
    refine (impl_ArePrizes_b _ _ _ S _ _ _ P _ HN.out hm hr HN'.out hm' hr').mono ?_
    rintro e w1 ⟨rfl, b1⟩
    rw [h1]
    clear h1
    go_wp2_with fail
    refine (impl_fieldEquities_c A n c S B m d P _ HN.out (hr.below b1) HN'.out (hr'.below b1) hmd H1.out).mono ?_
    rintro e w2 ⟨G, l, c2, rfl, hl, hm2, ho, b2⟩
    go_wp2_with fail
    go_ret2
    exact LQ.mk rfl hl.out hm2 (ho.widen b1.size (Nat.le_refl _)) (below_step b1 b2 b1.size)
theorem spec_l26List_ok (s : Nat) (A : Option Addr) (n c : Nat) (w : World) (h : St w s 0) : Calls Try.prog 144 #[.pointer (some ⟨s, 0, none⟩), .slice A n c] w fun e w' => e = .returned (.tuple #[.slice A n c, .int .i64 0]) ∧ w = w' := by
  obtain ⟨c0, f0⟩ := h.cell
  clear h
  go_enter Try.func144, Try.ntmps144
  go_wp2_with fail
  go_ret2
  exact ⟨rfl, rfl⟩
theorem spec_l26List_no (s : Nat) (A : Option Addr) (n c : Nat) (w : World) (h : St w s 3) : Calls Try.prog 144 #[.pointer (some ⟨s, 0, none⟩), .slice A n c] w fun e w' => e = .returned (.tuple #[.slice none 0 0, .int .i64 3]) ∧ Below w.heap.size w w' := by
  obtain ⟨c0, f0⟩ := h.cell
  clear h
  go_enter Try.func144, Try.ntmps144
  go_wp2_with fail
  go_quiet (fail)
  go_wp2_with fail
  go_ret2
  exact ⟨rfl, below_drewN (Below.refl _ _) _⟩
theorem cdQ_bind {α : Type} (o : Option α) (q : Option (Int × Int)) : cdQ ((o.bind fun _ => (some (0, 1) : Option (Int × Int))).bind fun _ => q) = cdQ ((o.bind fun _ => q).bind fun _ => (some (0, 1) : Option (Int × Int))) := by
  cases o <;> cases q <;> rfl
theorem cdQ_some_iff {o : Option (Int × Int)} : cdQ o = if o.isSome = true then 0 else 3 := by cases o <;> rfl
set_option maxRecDepth 100000 in
set_option maxHeartbeats 2000000 in
theorem spec_FieldEquities_c (A : Option Addr) (n c : Nat) (S : List Int) (B : Option Addr) (m d : Nat) (P : List Int) (w : World) (hn : S.length = n) (hm : n ≤ 1048576) (hr : RI w A S) (hn' : P.length = m) (hm' : m ≤ 1048576) (hr' : RI w B P) (hmd : m ≤ d) :
    Calls Try.prog 83 #[.slice A n c, .slice B m d] w (LQ w (feL S P) (feE S P)) := by
  have HN := Lib.hid hn
  have HN' := Lib.hid hn'
  clear hn hn'
  cases h1 : prizesB S P
  · have HV : Hid (feL S P = [] ∧ feE S P = 1) := Lib.hid (by simp [feL, feE, h1])
    go_enter Try.func83, Try.ntmps83
    go_wp2_with fail
    refine (spec_ArePrizes_b _ _ _ S _ _ _ P _ HN.out hm hr HN'.out hm' hr').mono ?_
    rintro e w1 ⟨rfl, b1⟩
    rw [h1]
    clear h1
    go_wp2_with fail
    go_ret2
    rw [HV.out.1, HV.out.2]
    exact LQ.mk rfl rfl (Nat.zero_le _) (OQ.nil _ _ _ _) b1
  · have H1 := Lib.hid h1
    have n5 : n ≤ 5 := by rw [← HN.out]; exact (fieldB_iff.1 (prizesB_iff.1 h1).1).2.1
    have np := (prizesB_iff.1 h1).2.1
    have nf := (fieldB_iff.1 (prizesB_iff.1 h1).1).1
    go_enter Try.func83, Try.ntmps83
    go_wp2_with fail
    refine (spec_ArePrizes_b _ _ _ S _ _ _ P _ HN.out hm hr HN'.out hm' hr').mono ?_
    rintro e w1 ⟨rfl, b1⟩
    rw [h1]
    clear h1
    obtain ⟨s, hs⟩ : ∃ s : Nat, s = w1.heap.size := ⟨_, rfl⟩
    have HS := Lib.hid hs
    have B1 := Lib.hid b1
    have sz1 : w.heap.size ≤ s := by rw [hs]; exact b1.size
    clear b1
    go_wp2_with fail
    rw [← hs]
    clear hs
    go_loopw [7, 8] (fun t u wr => ∃ (k c' : Nat) (G : Option Addr) (qs : List (Int × Int)), t = .slice G k c' ∧ u = .int .i64 k ∧ k ≤ n ∧ Hid (∀ l, feK S P k = some l → qs = l) ∧ Hid (St wr s (cdQ ((feK S P k).bind fun _ => (some (0, 1) : Option (Int × Int))))) ∧ Hid (RowQ wr (s + 1) G k c' qs) ∧ s + 1 ≤ wr.heap.size ∧ Hid (Below w.heap.size w wr)) (fun _ u _ => n - (intOf u).toNat)
    case atStart =>
      have e1 : (w1.alloc (.cells #[.int .i64 0] 132)).heap.size = s + 1 := by rw [HS.out]; simp
      refine ⟨0, 0, _, [], rfl, rfl, Nat.zero_le _, Lib.hid (fun l h => by simp [feK] at h; exact h.symm), Lib.hid ?_, Lib.hid ?_, by rw [← e1]; simp, Lib.hid ?_⟩
      · have := St.new w1 0
        rw [← HS.out] at this
        exact this.al
      · have := RowQ.empty (w1.alloc (.cells #[.int .i64 0] 132)) (base := s + 1) (by omega)
        rw [e1] at this
        exact this
      · exact (B1.out.alloc B1.out.size _).alloc (Nat.le_trans B1.out.size (by simp)) _
    case round =>
      obtain ⟨k, c', G, qs, rfl, rfl, hk, hfe, hst, hrow, hsz, hbw⟩ := hrel
      by_cases hlt : k < n
      · have i1 : (k : Int) < (n : Int) := by omega
        have i2 : (0 : Int) ≤ (k : Int) := by omega
        have hok := prizes_ok H1.out (i := k) (by rw [HN.out]; exact hlt)
        go_wp2_with fail
        refine (spec_l29Of_c S P ((feK S P k).bind fun _ => (some (0, 1) : Option (Int × Int))) s k n c m d A B _ HN.out HN'.out hok hst.out (hr.below hbw.out) (hr'.below hbw.out) (hr.ne (by omega) sz1) (hr'.ne (by omega) sz1)).mono ?_
        rintro e w2 ⟨N, D, rfl, sq, k2⟩
        have SQ2 := Lib.hid sq
        have hrow2 := Lib.hid ((hrow.out.keptS k2 (by omega)).alloc (.cells #[.int .i64 N, .int .i64 D] 48))
        have hbw2 := Lib.hid (hbw.out.trans (k2.below sz1 hbw.out.size))
        have sz2 := hbw2.out.size
        have sz3 : s + 1 ≤ w2.heap.size := Nat.le_trans hsz k2.size
        have HF : Hid (∀ l, feK S P (k + 1) = some l → qs ++ [(N, D)] = l) := Lib.hid (fun l h => by
          simp only [feK] at h
          cases h1 : feK S P k with
          | none => rw [h1] at h; simp at h
          | some l1 =>
            rw [h1] at h
            cases h2 : icm P S k with
            | none => rw [h2] at h; simp at h
            | some q =>
              rw [h2] at h
              simp at h
              subst h
              have e1 := hfe.out l1 h1
              have e2 := (SQ2.out.v q (by rw [h1, h2]; rfl)).1
              rw [e1, e2])
        have HT : Hid (St w2 s (cdQ ((feK S P (k + 1)).bind fun _ => (some (0, 1) : Option (Int × Int))))) := Lib.hid (by
          have e : cdQ ((feK S P (k + 1)).bind fun _ => (some (0, 1) : Option (Int × Int))) = cdQ (((feK S P k).bind fun _ => (some (0, 1) : Option (Int × Int))).bind fun _ => icm P S k) := by
            simp only [feK]
            cases feK S P k <;> cases icm P S k <;> rfl
          rw [e]
          exact SQ2.out.st)
        clear sq k2 hrow hbw hst hfe
        go_wp2_with (at_builtin; refine wpList_appendQ rfl _ _ rfl (s + 1) G k c' qs rfl hrow2.out w2.heap.size 1 N D rfl (by simp) (by simp) (by omega) (by simp; omega) ?_; intro g5 c5 w5 hr5 hb5 hg5; have HR5 := Lib.hid hr5; have HB5 := Lib.hid ((hbw2.out.alloc sz2 (.cells #[.int .i64 N, .int .i64 D] 48)).trans (hb5.mono (by omega))); have HT5 := Lib.hid (HT.out.al.belowB hb5 (by omega)); have sz5 : s + 1 ≤ w5.heap.size := Nat.le_trans (by simp; omega) hb5.size; clear hr5 hb5 hg5)
        go_roundw
        case rel => exact ⟨k + 1, c5, _, _, rfl, by go_num, by omega, HF, HT5, HR5, sz5, HB5⟩
        case measure => simp [intOf]; omega
      · have hke : k = S.length := by rw [HN.out]; omega
        rcases hfk : feK S P k with _ | l
        · have HV : Hid (feL S P = [] ∧ feE S P = 3) := Lib.hid (by
            unfold feL feE
            rw [if_pos H1.out, if_pos H1.out, ← hke, hfk]
            exact ⟨rfl, rfl⟩)
          have hst3 : Hid (St wr s 3) := Lib.hid (by have := hst.out; rw [hfk] at this; exact this)
          clear hke hfk hst
          go_wp2_with fail
          refine (spec_l26List_no s _ _ _ _ hst3.out).mono ?_
          rintro e w3 ⟨rfl, b3⟩
          go_wp2_with fail
          go_ret2
          rw [HV.out.1, HV.out.2]
          exact LQ.mk rfl rfl (Nat.zero_le _) (OQ.nil _ _ _ _) (below_step hbw.out b3 hbw.out.size)
        · have HV : Hid (feL S P = qs ∧ feE S P = 0) := Lib.hid (by
            unfold feL feE
            rw [if_pos H1.out, if_pos H1.out, ← hke, hfk, hfe.out l hfk]
            exact ⟨rfl, rfl⟩)
          have hst3 : Hid (St wr s 0) := Lib.hid (by have := hst.out; rw [hfk] at this; exact this)
          clear hke hfk hst
          go_wp2_with (go_at_call 144; refine (spec_l26List_ok s _ _ _ _ hst3.out).mono ?_; rintro e w' ⟨rfl, rfl⟩)
          go_ret2
          rw [HV.out.1, HV.out.2]
          exact LQ.mk rfl hrow.out.length (by omega) (hrow.out.oq.widen (by omega) (Nat.le_refl _)) hbw.out
end Go.Proofs.Ythpgkngkmmameaa
