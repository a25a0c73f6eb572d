/-
  What the reference draws for an audit of a deal. Conditions: a code of at most 1048576 bytes.
-/
import Derived.Test.YthpgkngkmmameaaDrawDeck
import Derived.Test.YthpgkngkmmameaaCryptAudit
namespace Go.Proofs.Ythpgkngkmmameaa
open Go.RowKit
set_option linter.unusedVariables false
theorem results_tmp5 {fn : Func} {t u v x y : Tmp} (h : fn.results = #[.tmp t, .tmp u, .tmp v, .tmp x, .tmp y]) (tmps : Array Value) (P : Program) (w : World) :
    (results fn tmps).run P w = .ok (.tuple #[tmps.getD t undef, tmps.getD u undef, tmps.getD v undef, tmps.getD x undef, tmps.getD y undef]) w := by
  simp [results, h]
theorem OI.belowB {w w' : World} {lo hi B : Nat} {A : Option Addr} {zs : List Int} (h : OI w lo hi A zs) (hb : Below B w w') (hB : hi ≤ B) : OI w' lo hi A zs :=
  h.kept (l := B) (h' := w.heap.size) ⟨hb.os, hb.tape, hb.output, hb.size, fun k hk hn => hb.block k (by omega)⟩ (.inr hB)
theorem row_base {w : World} {base base' : Nat} {A : Option Addr} {n c : Nat} {zs : List Int} (h : Row w base A n c zs) (hb : base' ≤ base) : Row w base' A n c zs := by
  refine ⟨h.1, ?_⟩
  rcases h.2 with a | ⟨g, cap, cur, hv, h1, r⟩
  · exact .inl a
  · exact .inr ⟨g, cap, cur, hv, Nat.le_trans hb h1, r⟩
/-- What is drawn for an audit. -/
def DA (w : World) (e : Ending) (w' : World) : Prop := ∃ (a : Int) (A : Option Addr) (n c : Nat) (ps : List Int) (b : Int) (B : Option Addr) (m d : Nat) (qs : List Int) (C : Option Addr) (l f : Nat) (zs : List Int), e = .returned (.tuple #[.int .i64 a, .slice A n c, .int .i64 b, .slice B m d, .slice C l f]) ∧ Hid (ps.length = n) ∧ n ≤ 53 ∧ RI w' A ps ∧ Hid (qs.length = m) ∧ m ≤ 53 ∧ RI w' B qs ∧ Hid (zs.length = l) ∧ l ≤ 54 ∧ RI w' C zs ∧ Below w.heap.size w w'
set_option maxHeartbeats 6000000 in
theorem spec_DrawAuditDeal_c (A : Option Addr) (n c : Nat) (bs : List Int) (w : World) (hn : bs.length = n) (hm : n ≤ 1048576) (hr : BR w A bs) :
    Calls Try.prog 76 #[.slice A n c] w (DA w) := by
  go_enter Try.func76, Try.ntmps76
  go_wp2_with fail
  refine (spec_l01From_c A n c bs _ hn hm hr).mono ?_
  rintro e w0 ⟨g, rfl, hs0, hb0⟩
  have g0 := hs0.lt
  have HS0 := Lib.hid hs0
  have HB0 := Lib.hid hb0
  go_wp2_with fail
  refine (spec_l32DrawKey_c _ _ g hs0).mono ?_
  rintro e w1 ⟨a, rfl, a0, a1, hs1, hk1⟩
  have z1 := hk1.size
  go_wp2_with fail
  refine (spec_l32DrawKey_c _ _ g hs1).mono ?_
  rintro e w2 ⟨b, rfl, b0, b1, hs2, hk2⟩
  have z2 := hk2.size
  go_wp2_with fail
  refine (spec_l03Draw_c _ _ g hs2).mono ?_
  rintro e w3 ⟨A', n', c', ps, rfl, hl3, hn3, ho3, hs3, hk3⟩
  have z3 := hk3.size
  go_wp2_with fail
  refine (spec_l03Draw_c _ _ g hs3).mono ?_
  rintro e w4 ⟨B', m', d', qs, rfl, hl4, hn4, ho4, hs4, hk4⟩
  have z4 := hk4.size
  have OP := Lib.hid (ho3.kept hk4 (.inl (by omega)))
  have OQ := Lib.hid ho4
  have HS := Lib.hid hs4
  have HK := Lib.hid (((hk1.trans hk2).trans hk3).trans hk4)
  clear hs0 hb0 hs1 hk1 hs2 hk2 ho3 hs3 hk3 ho4 hs4 hk4 hr
  obtain ⟨W, hW⟩ : ∃ W, W = w4.alloc (.cells #[] 2) := ⟨_, rfl⟩
  have zW : W.heap.size = w4.heap.size + 1 := by rw [hW]; simp
  have bW : Below w4.heap.size w4 W := by rw [hW]; exact (Below.refl _ _).alloc (Nat.le_refl _) _
  have hrow : Row W w4.heap.size (some ⟨w4.heap.size, 0, none⟩) 0 0 [] := by rw [hW]; exact Row.empty w4 (Nat.le_refl _)
  replace OP := Lib.hid (OP.out.below bW)
  replace OQ := Lib.hid (OQ.out.below bW)
  replace HS := Lib.hid (HS.out.below bW)
  replace HK := Lib.hid (HK.out.trans (Kept.of_below bW g (g + 1)))
  have HW := Lib.hid hW
  have RE := Lib.hid hrow
  clear hrow hW bW
  cases h1 : inB a 1 1018
  · have RL := RE
    go_wp2_with (first | (go_at_call 125; rw [← HW.out]; refine (spec_l32Key_c _ _).mono ?_; rintro e w' ⟨rfl, rfl⟩; rw [h1]))
    have g1 := HS.out.lt
    have zA := HK.out.size
    have hgl := World.ownsRow.lt RL.out w4.heap.size rfl
    refine (spec_l01Next_c _ _ g _ HS.out (by omega)).mono ?_
    rintro e wy ⟨r, rfl, r0, r1, hsy, hky⟩
    have zy := hky.size
    have ry := RL.out.keptS hky (by omega)
    have HRY := Lib.hid ry
    have OPY := Lib.hid (OP.out.kept hky (.inl (by omega)))
    have OQY := Lib.hid (OQ.out.kept hky (.inl (by omega)))
    have HKY := Lib.hid (HK.out.trans hky)
    have HLY := Lib.hid ry.length
    have hcap : 0 ≤ 0 := by
      rcases ry.2 with ⟨hv, h0⟩ | ⟨g', cap, cur, hv, _, _, hn, _⟩
      · omega
      · injection hv with _ _ e; omega
    clear HS HK OP OQ RL hsy hky
    by_cases c0 : r = 0
    · have d0 : (r == 0) = true := by simp [c0]
      clear c0
      go_wp2_with fail
      (try simp only [Exit.inBlock, Exit.then]); refine bodyPost_ret (results_tmp5 rfl _ _ _) rfl ?_
      exact ⟨a, A', n', c', ps, b, B', m', d', qs, _, _, _, _, rfl, hl3, hn3, OPY.out.ri, hl4, hn4, OQY.out.ri, HLY, by omega, HRY.out.oi.ri, src_below HS0.out HB0.out HKY.out⟩
    · have d0 : (r == 0) = false := by simp [c0]
      by_cases c1 : r = 1
      · have d1 : (r == 1) = true := by simp [c1]
        clear c0 c1
        go_wp2_with (at_builtin; refine wpList_append1 rfl _ _ rfl w4.heap.size (some ⟨w4.heap.size, 0, none⟩) 0 0 _ rfl (Row.alloc HRY.out _) wy.heap.size 1 1 rfl (by simp) (by omega) (by simp; omega) ?_; intro gz cz wz hrz hbz hgz)
        have HRZ := Lib.hid hrz
        have BZ := Lib.hid (((Below.refl w4.heap.size wy).alloc (by omega) (.cells #[.int .i64 1] 2)).trans hbz)
        have KZ := Lib.hid ((HKY.out.alloc (.cells #[.int .i64 1] 2)).belowBase (hbz.mono (by omega)))
        clear hrz hbz hgz
        (try simp only [Exit.inBlock, Exit.then]); refine bodyPost_ret (results_tmp5 rfl _ _ _) rfl ?_
        exact ⟨a, A', n', c', ps, b, B', m', d', qs, _, _, _, _, rfl, hl3, hn3, (OPY.out.belowB BZ.out (by omega)).ri, hl4, hn4, (OQY.out.belowB BZ.out (Nat.le_refl _)).ri, Lib.hid HRZ.out.length, by omega, HRZ.out.oi.ri, src_below HS0.out HB0.out KZ.out⟩
      · have d1 : (r == 1) = false := by simp [c1]
        clear c0 c1
        go_wp2_with fail
        (try simp only [Exit.inBlock, Exit.then]); refine bodyPost_ret (results_tmp5 rfl _ _ _) rfl ?_
        exact ⟨a, A', n', c', ps, b, B', m', d', qs, _, _, _, _, rfl, hl3, hn3, OPY.out.ri, hl4, hn4, OQY.out.ri, HLY, by omega, HRY.out.oi.ri, src_below HS0.out HB0.out HKY.out⟩
  cases h2 : inB b 1 1018
  · have RL := RE
    go_wp2_with (first | (go_at_call 125; (try rw [← HW.out]); refine (spec_l32Key_c _ _).mono ?_; rintro e w' ⟨rfl, rfl⟩; (first | rw [h1] | rw [h2])))
    have g1 := HS.out.lt
    have zA := HK.out.size
    have hgl := World.ownsRow.lt RL.out w4.heap.size rfl
    refine (spec_l01Next_c _ _ g _ HS.out (by omega)).mono ?_
    rintro e wy ⟨r, rfl, r0, r1, hsy, hky⟩
    have zy := hky.size
    have ry := RL.out.keptS hky (by omega)
    have HRY := Lib.hid ry
    have OPY := Lib.hid (OP.out.kept hky (.inl (by omega)))
    have OQY := Lib.hid (OQ.out.kept hky (.inl (by omega)))
    have HKY := Lib.hid (HK.out.trans hky)
    have HLY := Lib.hid ry.length
    have hcap : 0 ≤ 0 := by
      rcases ry.2 with ⟨hv, h0⟩ | ⟨g', cap, cur, hv, _, _, hn, _⟩
      · omega
      · injection hv with _ _ e; omega
    clear HS HK OP OQ RL hsy hky
    by_cases c0 : r = 0
    · have d0 : (r == 0) = true := by simp [c0]
      clear c0
      go_wp2_with fail
      (try simp only [Exit.inBlock, Exit.then]); refine bodyPost_ret (results_tmp5 rfl _ _ _) rfl ?_
      exact ⟨a, A', n', c', ps, b, B', m', d', qs, _, _, _, _, rfl, hl3, hn3, OPY.out.ri, hl4, hn4, OQY.out.ri, HLY, by omega, HRY.out.oi.ri, src_below HS0.out HB0.out HKY.out⟩
    · have d0 : (r == 0) = false := by simp [c0]
      by_cases c1 : r = 1
      · have d1 : (r == 1) = true := by simp [c1]
        clear c0 c1
        go_wp2_with (at_builtin; refine wpList_append1 rfl _ _ rfl w4.heap.size (some ⟨w4.heap.size, 0, none⟩) 0 0 _ rfl (Row.alloc HRY.out _) wy.heap.size 1 1 rfl (by simp) (by omega) (by simp; omega) ?_; intro gz cz wz hrz hbz hgz)
        have HRZ := Lib.hid hrz
        have BZ := Lib.hid (((Below.refl w4.heap.size wy).alloc (by omega) (.cells #[.int .i64 1] 2)).trans hbz)
        have KZ := Lib.hid ((HKY.out.alloc (.cells #[.int .i64 1] 2)).belowBase (hbz.mono (by omega)))
        clear hrz hbz hgz
        (try simp only [Exit.inBlock, Exit.then]); refine bodyPost_ret (results_tmp5 rfl _ _ _) rfl ?_
        exact ⟨a, A', n', c', ps, b, B', m', d', qs, _, _, _, _, rfl, hl3, hn3, (OPY.out.belowB BZ.out (by omega)).ri, hl4, hn4, (OQY.out.belowB BZ.out (Nat.le_refl _)).ri, Lib.hid HRZ.out.length, by omega, HRZ.out.oi.ri, src_below HS0.out HB0.out KZ.out⟩
      · have d1 : (r == 1) = false := by simp [c1]
        clear c0 c1
        go_wp2_with fail
        (try simp only [Exit.inBlock, Exit.then]); refine bodyPost_ret (results_tmp5 rfl _ _ _) rfl ?_
        exact ⟨a, A', n', c', ps, b, B', m', d', qs, _, _, _, _, rfl, hl3, hn3, OPY.out.ri, hl4, hn4, OQY.out.ri, HLY, by omega, HRY.out.oi.ri, src_below HS0.out HB0.out HKY.out⟩
  obtain ⟨a2, a3⟩ := inB_iff.1 h1
  obtain ⟨b2, b3⟩ := inB_iff.1 h2
  cases h3 : deckB ps
  · have RL := RE
    go_wp2_with (first | (go_at_call 125; (try rw [← HW.out]); refine (spec_l32Key_c _ _).mono ?_; rintro e w' ⟨rfl, rfl⟩; (first | rw [h1] | rw [h2])))
    refine (spec_IsDeck_c _ _ _ ps _ hl3.out (by omega) OP.out.ri).mono ?_
    rintro e w5 ⟨rfl, dw5⟩
    have sw5 := dw5.size
    have OPn := Lib.hid (OP.out.below dw5)
    have OQn := Lib.hid (OQ.out.below dw5)
    have HSn := Lib.hid (HS.out.below dw5)
    have HKn := Lib.hid (HK.out.trans (Kept.of_below dw5 g (g + 1)))
    clear OP OQ HS HK
    have OP := OPn
    have OQ := OQn
    have HS := HSn
    have HK := HKn
    clear OPn OQn HSn HKn
    have RLn := Lib.hid (RL.out.below dw5)
    clear RL
    have RL := RLn
    clear RLn
    rw [h3]
    have g1 := HS.out.lt
    have zA := HK.out.size
    have hgl := World.ownsRow.lt RL.out w4.heap.size rfl
    go_wp2_with fail
    refine (spec_l01Next_c _ _ g _ HS.out (by omega)).mono ?_
    rintro e wy ⟨r, rfl, r0, r1, hsy, hky⟩
    have zy := hky.size
    have ry := RL.out.keptS hky (by omega)
    have HRY := Lib.hid ry
    have OPY := Lib.hid (OP.out.kept hky (.inl (by omega)))
    have OQY := Lib.hid (OQ.out.kept hky (.inl (by omega)))
    have HKY := Lib.hid (HK.out.trans hky)
    have HLY := Lib.hid ry.length
    have hcap : 0 ≤ 0 := by
      rcases ry.2 with ⟨hv, h0⟩ | ⟨g', cap, cur, hv, _, _, hn, _⟩
      · omega
      · injection hv with _ _ e; omega
    clear HS HK OP OQ RL hsy hky
    by_cases c0 : r = 0
    · have d0 : (r == 0) = true := by simp [c0]
      clear c0
      go_wp2_with fail
      (try simp only [Exit.inBlock, Exit.then]); refine bodyPost_ret (results_tmp5 rfl _ _ _) rfl ?_
      exact ⟨a, A', n', c', ps, b, B', m', d', qs, _, _, _, _, rfl, hl3, hn3, OPY.out.ri, hl4, hn4, OQY.out.ri, HLY, by omega, HRY.out.oi.ri, src_below HS0.out HB0.out HKY.out⟩
    · have d0 : (r == 0) = false := by simp [c0]
      by_cases c1 : r = 1
      · have d1 : (r == 1) = true := by simp [c1]
        clear c0 c1
        go_wp2_with (at_builtin; refine wpList_append1 rfl _ _ rfl w4.heap.size (some ⟨w4.heap.size, 0, none⟩) 0 0 _ rfl (Row.alloc HRY.out _) wy.heap.size 1 1 rfl (by simp) (by omega) (by simp; omega) ?_; intro gz cz wz hrz hbz hgz)
        have HRZ := Lib.hid hrz
        have BZ := Lib.hid (((Below.refl w4.heap.size wy).alloc (by omega) (.cells #[.int .i64 1] 2)).trans hbz)
        have KZ := Lib.hid ((HKY.out.alloc (.cells #[.int .i64 1] 2)).belowBase (hbz.mono (by omega)))
        clear hrz hbz hgz
        (try simp only [Exit.inBlock, Exit.then]); refine bodyPost_ret (results_tmp5 rfl _ _ _) rfl ?_
        exact ⟨a, A', n', c', ps, b, B', m', d', qs, _, _, _, _, rfl, hl3, hn3, (OPY.out.belowB BZ.out (by omega)).ri, hl4, hn4, (OQY.out.belowB BZ.out (Nat.le_refl _)).ri, Lib.hid HRZ.out.length, by omega, HRZ.out.oi.ri, src_below HS0.out HB0.out KZ.out⟩
      · have d1 : (r == 1) = false := by simp [c1]
        clear c0 c1
        go_wp2_with fail
        (try simp only [Exit.inBlock, Exit.then]); refine bodyPost_ret (results_tmp5 rfl _ _ _) rfl ?_
        exact ⟨a, A', n', c', ps, b, B', m', d', qs, _, _, _, _, rfl, hl3, hn3, OPY.out.ri, hl4, hn4, OQY.out.ri, HLY, by omega, HRY.out.oi.ri, src_below HS0.out HB0.out HKY.out⟩
  cases h4 : deckB qs
  · have RL := RE
    go_wp2_with (first | (go_at_call 125; (try rw [← HW.out]); refine (spec_l32Key_c _ _).mono ?_; rintro e w' ⟨rfl, rfl⟩; (first | rw [h1] | rw [h2])))
    refine (spec_IsDeck_c _ _ _ ps _ hl3.out (by omega) OP.out.ri).mono ?_
    rintro e w5 ⟨rfl, dw5⟩
    have sw5 := dw5.size
    have OPn := Lib.hid (OP.out.below dw5)
    have OQn := Lib.hid (OQ.out.below dw5)
    have HSn := Lib.hid (HS.out.below dw5)
    have HKn := Lib.hid (HK.out.trans (Kept.of_below dw5 g (g + 1)))
    clear OP OQ HS HK
    have OP := OPn
    have OQ := OQn
    have HS := HSn
    have HK := HKn
    clear OPn OQn HSn HKn
    have RLn := Lib.hid (RL.out.below dw5)
    clear RL
    have RL := RLn
    clear RLn
    rw [h3]
    go_wp2_with fail
    refine (spec_IsDeck_c _ _ _ qs _ hl4.out (by omega) OQ.out.ri).mono ?_
    rintro e w6 ⟨rfl, dw6⟩
    have sw6 := dw6.size
    have OPn := Lib.hid (OP.out.below dw6)
    have OQn := Lib.hid (OQ.out.below dw6)
    have HSn := Lib.hid (HS.out.below dw6)
    have HKn := Lib.hid (HK.out.trans (Kept.of_below dw6 g (g + 1)))
    clear OP OQ HS HK
    have OP := OPn
    have OQ := OQn
    have HS := HSn
    have HK := HKn
    clear OPn OQn HSn HKn
    have RLn := Lib.hid (RL.out.below dw6)
    clear RL
    have RL := RLn
    clear RLn
    rw [h4]
    have g1 := HS.out.lt
    have zA := HK.out.size
    have hgl := World.ownsRow.lt RL.out w4.heap.size rfl
    go_wp2_with fail
    refine (spec_l01Next_c _ _ g _ HS.out (by omega)).mono ?_
    rintro e wy ⟨r, rfl, r0, r1, hsy, hky⟩
    have zy := hky.size
    have ry := RL.out.keptS hky (by omega)
    have HRY := Lib.hid ry
    have OPY := Lib.hid (OP.out.kept hky (.inl (by omega)))
    have OQY := Lib.hid (OQ.out.kept hky (.inl (by omega)))
    have HKY := Lib.hid (HK.out.trans hky)
    have HLY := Lib.hid ry.length
    have hcap : 0 ≤ 0 := by
      rcases ry.2 with ⟨hv, h0⟩ | ⟨g', cap, cur, hv, _, _, hn, _⟩
      · omega
      · injection hv with _ _ e; omega
    clear HS HK OP OQ RL hsy hky
    by_cases c0 : r = 0
    · have d0 : (r == 0) = true := by simp [c0]
      clear c0
      go_wp2_with fail
      (try simp only [Exit.inBlock, Exit.then]); refine bodyPost_ret (results_tmp5 rfl _ _ _) rfl ?_
      exact ⟨a, A', n', c', ps, b, B', m', d', qs, _, _, _, _, rfl, hl3, hn3, OPY.out.ri, hl4, hn4, OQY.out.ri, HLY, by omega, HRY.out.oi.ri, src_below HS0.out HB0.out HKY.out⟩
    · have d0 : (r == 0) = false := by simp [c0]
      by_cases c1 : r = 1
      · have d1 : (r == 1) = true := by simp [c1]
        clear c0 c1
        go_wp2_with (at_builtin; refine wpList_append1 rfl _ _ rfl w4.heap.size (some ⟨w4.heap.size, 0, none⟩) 0 0 _ rfl (Row.alloc HRY.out _) wy.heap.size 1 1 rfl (by simp) (by omega) (by simp; omega) ?_; intro gz cz wz hrz hbz hgz)
        have HRZ := Lib.hid hrz
        have BZ := Lib.hid (((Below.refl w4.heap.size wy).alloc (by omega) (.cells #[.int .i64 1] 2)).trans hbz)
        have KZ := Lib.hid ((HKY.out.alloc (.cells #[.int .i64 1] 2)).belowBase (hbz.mono (by omega)))
        clear hrz hbz hgz
        (try simp only [Exit.inBlock, Exit.then]); refine bodyPost_ret (results_tmp5 rfl _ _ _) rfl ?_
        exact ⟨a, A', n', c', ps, b, B', m', d', qs, _, _, _, _, rfl, hl3, hn3, (OPY.out.belowB BZ.out (by omega)).ri, hl4, hn4, (OQY.out.belowB BZ.out (Nat.le_refl _)).ri, Lib.hid HRZ.out.length, by omega, HRZ.out.oi.ri, src_below HS0.out HB0.out KZ.out⟩
      · have d1 : (r == 1) = false := by simp [c1]
        clear c0 c1
        go_wp2_with fail
        (try simp only [Exit.inBlock, Exit.then]); refine bodyPost_ret (results_tmp5 rfl _ _ _) rfl ?_
        exact ⟨a, A', n', c', ps, b, B', m', d', qs, _, _, _, _, rfl, hl3, hn3, OPY.out.ri, hl4, hn4, OQY.out.ri, HLY, by omega, HRY.out.oi.ri, src_below HS0.out HB0.out HKY.out⟩
  go_wp2_with (first | (go_at_call 125; (try rw [← HW.out]); refine (spec_l32Key_c _ _).mono ?_; rintro e w' ⟨rfl, rfl⟩; (first | rw [h1] | rw [h2])))
  refine (spec_IsDeck_c _ _ _ ps _ hl3.out (by omega) OP.out.ri).mono ?_
  rintro e w5 ⟨rfl, dw5⟩
  have sw5 := dw5.size
  have OPn := Lib.hid (OP.out.below dw5)
  have OQn := Lib.hid (OQ.out.below dw5)
  have HSn := Lib.hid (HS.out.below dw5)
  have HKn := Lib.hid (HK.out.trans (Kept.of_below dw5 g (g + 1)))
  clear OP OQ HS HK
  have OP := OPn
  have OQ := OQn
  have HS := HSn
  have HK := HKn
  clear OPn OQn HSn HKn
  rw [h3]
  go_wp2_with fail
  refine (spec_IsDeck_c _ _ _ qs _ hl4.out (by omega) OQ.out.ri).mono ?_
  rintro e w6 ⟨rfl, dw6⟩
  have sw6 := dw6.size
  have OPn := Lib.hid (OP.out.below dw6)
  have OQn := Lib.hid (OQ.out.below dw6)
  have HSn := Lib.hid (HS.out.below dw6)
  have HKn := Lib.hid (HK.out.trans (Kept.of_below dw6 g (g + 1)))
  clear OP OQ HS HK
  have OP := OPn
  have OQ := OQn
  have HS := HSn
  have HK := HKn
  clear OPn OQn HSn HKn
  rw [h4]
  have e1 := Lib.hid (deck_length h3)
  have e2 := Lib.hid (deck_length h4)
  have z1' := Lib.hid (deck_range h3)
  have z2' : Hid (∀ x ∈ qs, 0 ≤ x ∧ x < ((ps.length : Nat) : Int)) := fun x hx => by have := deck_range h4 x hx; have := e1.out; omega
  have z3' := Lib.hid (first_range a ps)
  go_wp2_with fail
  refine (spec_l32First_c _ _ _ ps _ _ hl3.out (by omega) OP.out.ri z1' (by omega) (by omega)).mono ?_
  rintro e w7 ⟨g7, c7, rfl, o7, dw7⟩
  have s7 := dw7.size
  have OPn := Lib.hid (OP.out.below dw7)
  have OQn := Lib.hid (OQ.out.below dw7)
  have HSn := Lib.hid (HS.out.below dw7)
  have HKn := Lib.hid (HK.out.trans (Kept.of_below dw7 g (g + 1)))
  clear OP OQ HS HK
  have OP := OPn
  have OQ := OQn
  have HS := HSn
  have HK := HKn
  clear OPn OQn HSn HKn
  go_wp2_with fail
  refine (spec_l32Mask_c _ n' _ (firstL a ps) _ _ (by rw [first_len]; exact hl3.out) (by omega) o7.ri z3' (by omega) (by omega)).mono ?_
  rintro e w8 ⟨g8, c8, rfl, o8, dw8⟩
  have s8 := dw8.size
  have OPn := Lib.hid (OP.out.below dw8)
  have OQn := Lib.hid (OQ.out.below dw8)
  have HSn := Lib.hid (HS.out.below dw8)
  have HKn := Lib.hid (HK.out.trans (Kept.of_below dw8 g (g + 1)))
  clear OP OQ HS HK
  have OP := OPn
  have OQ := OQn
  have HS := HSn
  have HK := HKn
  clear OPn OQn HSn HKn
  go_wp2_with fail
  refine (spec_l32Order_r _ _ n' _ _ _ (maskL (firstL a ps) b) qs _ (by rw [mask_len, first_len]; exact hl3.out) hl4.out (by omega) o8.ri OQ.out.ri (fun x hx => by have := z2'.out x hx; have := hl3.out; omega)).mono ?_
  rintro e w9 ⟨g9, c9, rfl, o9, dw9⟩
  have s9 := dw9.size
  have OPn := Lib.hid (OP.out.below dw9)
  have OQn := Lib.hid (OQ.out.below dw9)
  have HSn := Lib.hid (HS.out.below dw9)
  have HKn := Lib.hid (HK.out.trans (Kept.of_below dw9 g (g + 1)))
  clear OP OQ HS HK
  have OP := OPn
  have OQ := OQn
  have HS := HSn
  have HK := HKn
  clear OPn OQn HSn HKn
  obtain ⟨L, hL⟩ : ∃ L, orderL (maskL (firstL a ps) b) qs = L := ⟨_, rfl⟩
  rw [hL] at o9
  have RL := Lib.hid (row_base o9 (show w4.heap.size ≤ w8.heap.size by omega))
  clear o7 o8 o9 hL RE
  have g1 := HS.out.lt
  have zA := HK.out.size
  have hgl := World.ownsRow.lt RL.out g9 rfl
  go_wp2_with fail
  refine (spec_l01Next_c _ _ g _ HS.out (by omega)).mono ?_
  rintro e wy ⟨r, rfl, r0, r1, hsy, hky⟩
  have zy := hky.size
  have ry := RL.out.keptS hky (by omega)
  have HRY := Lib.hid ry
  have OPY := Lib.hid (OP.out.kept hky (.inl (by omega)))
  have OQY := Lib.hid (OQ.out.kept hky (.inl (by omega)))
  have HKY := Lib.hid (HK.out.trans hky)
  have HLY := Lib.hid ry.length
  have hcap : m' ≤ c9 := by
    rcases ry.2 with ⟨hv, h0⟩ | ⟨g', cap, cur, hv, _, _, hn, _⟩
    · omega
    · injection hv with _ _ e; omega
  clear HS HK OP OQ RL hsy hky
  by_cases c0 : r = 0
  · have d0 : (r == 0) = true := by simp [c0]
    clear c0
    by_cases h1 : 1 < m'
    · have i1 : (1 : Int) < (m' : Int) := by omega
      have i0 : (0 : Int) < (m' : Int) := by omega
      obtain ⟨x, hx⟩ := get_some (zs := L) (k := 0) (by have := HLY.out; omega)
      obtain ⟨y, hy⟩ := get_some (zs := L) (k := 1) (by have := HLY.out; omega)
      obtain ⟨cx, fx⟩ := HRY.out.oi.cellX hx
      obtain ⟨cy, fy⟩ := HRY.out.oi.cellX hy
      have R1 := Row.set HRY.out (j := 0) (by omega) y
      obtain ⟨u, hu⟩ : ∃ u, ((L).set 0 y)[1]? = some u := get_some (by rw [List.length_set]; have := HLY.out; omega)
      obtain ⟨cu, fu⟩ := R1.oi.cellX hu
      have R2 := Lib.hid (Row.set R1 (j := 1) (by omega) x)
      have BB := Lib.hid (((Below.refl w4.heap.size wy).setCell (p := ⟨g9, 0, none⟩) hgl.1 (.int .i64 y)).setCell (p := ⟨g9, 1, none⟩) hgl.1 (.int .i64 x))
      have KK := Lib.hid ((HKY.out.setCell (p := ⟨g9, 0, none⟩) (.inr (by show w0.heap.size ≤ g9; omega)) (.int .i64 y)).setCell (p := ⟨g9, 1, none⟩) (.inr (by show w0.heap.size ≤ g9; omega)) (.int .i64 x))
      simp only [Nat.zero_add] at cx fx cy fy cu fu
      clear R1 hx hy hu
      go_wp2_with fail
      (try simp only [Exit.inBlock, Exit.then]); refine bodyPost_ret (results_tmp5 rfl _ _ _) rfl ?_
      exact ⟨a, A', n', c', ps, b, B', m', d', qs, _, _, _, _, rfl, hl3, hn3, (OPY.out.belowB BB.out (by omega)).ri, hl4, hn4, (OQY.out.belowB BB.out (Nat.le_refl _)).ri, Lib.hid R2.out.length, by omega, R2.out.oi.ri, src_below HS0.out HB0.out KK.out⟩
    · have i1 : ¬ (1 : Int) < (m' : Int) := by omega
      go_wp2_with fail
      (try simp only [Exit.inBlock, Exit.then]); refine bodyPost_ret (results_tmp5 rfl _ _ _) rfl ?_
      exact ⟨a, A', n', c', ps, b, B', m', d', qs, _, _, _, _, rfl, hl3, hn3, OPY.out.ri, hl4, hn4, OQY.out.ri, HLY, by omega, HRY.out.oi.ri, src_below HS0.out HB0.out HKY.out⟩
  · have d0 : (r == 0) = false := by simp [c0]
    by_cases c1 : r = 1
    · have d1 : (r == 1) = true := by simp [c1]
      clear c0 c1
      go_wp2_with (at_builtin; refine wpList_append1 rfl _ _ rfl w4.heap.size (some ⟨g9, 0, none⟩) m' c9 _ rfl (Row.alloc HRY.out _) wy.heap.size 1 1 rfl (by simp) (by omega) (by simp; omega) ?_; intro gz cz wz hrz hbz hgz)
      have HRZ := Lib.hid hrz
      have BZ := Lib.hid (((Below.refl w4.heap.size wy).alloc (by omega) (.cells #[.int .i64 1] 2)).trans hbz)
      have KZ := Lib.hid ((HKY.out.alloc (.cells #[.int .i64 1] 2)).belowBase (hbz.mono (by omega)))
      clear hrz hbz hgz
      (try simp only [Exit.inBlock, Exit.then]); refine bodyPost_ret (results_tmp5 rfl _ _ _) rfl ?_
      exact ⟨a, A', n', c', ps, b, B', m', d', qs, _, _, _, _, rfl, hl3, hn3, (OPY.out.belowB BZ.out (by omega)).ri, hl4, hn4, (OQY.out.belowB BZ.out (Nat.le_refl _)).ri, Lib.hid HRZ.out.length, by omega, HRZ.out.oi.ri, src_below HS0.out HB0.out KZ.out⟩
    · have d1 : (r == 1) = false := by simp [c1]
      clear c0 c1
      go_wp2_with fail
      (try simp only [Exit.inBlock, Exit.then]); refine bodyPost_ret (results_tmp5 rfl _ _ _) rfl ?_
      exact ⟨a, A', n', c', ps, b, B', m', d', qs, _, _, _, _, rfl, hl3, hn3, OPY.out.ri, hl4, hn4, OQY.out.ri, HLY, by omega, HRY.out.oi.ri, src_below HS0.out HB0.out HKY.out⟩
end Go.Proofs.Ythpgkngkmmameaa
