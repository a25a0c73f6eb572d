/-
  What the reference draws for chapter 29. Conditions: a code of at most 1048576 bytes.
-/
import Derived.Test.YthpgkngkmmameaaDrawBase
import Derived.Test.YthpgkngkmmameaaArgB
namespace Go.Proofs.Ythpgkngkmmameaa
open Go.RowKit
set_option linter.unusedVariables false
set_option maxHeartbeats 2000000 in
theorem spec_l29Stacks_c (w : World) (lo g : Nat) (hs : Src w lo g) : Calls Try.prog 154 #[.pointer (some ⟨g, 0, none⟩)] w (DL w lo g 1 8) := by
  have hgl := hs.lt
  have hgs : g < w.heap.size := hgl.2
  go_enter Try.func154, Try.ntmps154
  go_wp2_with fail
  refine (spec_l01Next_c _ lo g _ (hs.alloc _) (by omega)).mono ?_
  rintro e w1 ⟨r1, rfl, p1, q1, hs1, hk1⟩
  have e1 : r1 ≤ 2 := by omega
  have hd := Lib.hid (Drawing.mk (w := w) (lo := lo) (g := g) (P := fun _ => True) ((Row.empty w (Nat.le_refl _)).keptS hk1 hgs) hs1 (((Kept.refl g (g + 1) w).alloc _).trans hk1) (by simp))
  clear hs1 hk1
  go_wp2_with fail
  go_loopw [3, 4] (fun o i wr => ∃ (n k c : Nat) (A : Option Addr) (zs : List Int), o = .slice A n c ∧ i = .int .i64 k ∧ k + n ≤ 4 ∧ 2 ≤ k + n ∧ Hid (Drawing w lo g wr A n c zs (fun _ => True))) (fun _ i _ => (intOf i).toNat)
  case atStart => exact ⟨0, (2 + r1).toNat, 0, _, _, rfl, by simp; omega, by omega, by omega, hd⟩
  case round =>
    obtain ⟨n, k, c, A, zs, rfl, rfl, hk, hk', hdr⟩ := hrel
    by_cases h0 : 0 < k
    · have H0 : 0 < (k : Int) := by omega
      have hzr := hdr.out.kept.size
      go_wp2_with fail
      refine (spec_l01Next_c _ lo g _ hdr.out.src (by omega)).mono ?_
      rintro e w2 ⟨r2, rfl, p2, q2, hs2, hk2⟩
      have z2 := hk2.size
      have e2 : r2 ≤ 11 := by omega
      go_wp2_with fail
      refine (spec_l01Next_c _ lo g _ hs2 (by omega)).mono ?_
      rintro e w3 ⟨r3, rfl, p3, q3, hs3, hk3⟩
      have z3 := hk3.size
      have e3 : r3 ≤ 8 := by omega
      go_wp2_with fail
      refine (spec_l01Pick_c _ lo g _ _ _ [1 + r2, 10 * (1 + r3), 5] (hs3.alloc _) rfl (by simp) (by simp) (RI.lit _ _ _ rfl) (fun b off e => by injection e with e; injection e with e1 _; have := hs3.lt; omega)).mono ?_
      rintro e w4 ⟨r4, rfl, m4, hs4, hk4⟩
      have hk5 := (hk2.trans hk3).trans ((Kept.refl g (g + 1) w3).alloc _ |>.trans hk4)
      have ho := hdr.out.row.keptS hk5 hgs
      have HK := Lib.hid (hdr.out.kept.trans hk5)
      clear hk2 hk3 hk4 hk5 m4
      have z4 := HK.out.size
      go_wp2_with (at_builtin; refine wpList_append1 rfl _ _ rfl w.heap.size A n c _ rfl (Row.alloc ho _) w4.heap.size 1 r4 rfl (by simp) (by omega) (by simp; omega) ?_; intro g2 c2 w5 hr5 hb5 hg5)
      have HD := Lib.hid (Drawing.mk (P := fun _ => True) hr5 ((hs4.alloc _).belowB hb5 hgs) ((HK.out.alloc _).belowBase hb5) (by simp))
      clear hr5 hb5 hg5
      go_roundw
      case rel => exact ⟨n + 1, k - 1, c2, _, _, rfl, by go_num, by omega, by omega, HD⟩
      case measure => simp [intOf]; omega
    · have hke : k = 0 := by omega
      subst hke
      have H0 : ¬ (0 : Int) < ((0 : Nat) : Int) := by simp
      go_wp2_with fail
      refine (spec_l01Next_c _ lo g _ hdr.out.src (by omega)).mono ?_
      rintro e w2 ⟨r2, rfl, p2, q2, hs2, hk2⟩
      have z2 := hk2.size
      have HK := Lib.hid (hdr.out.kept.trans hk2)
      have ho := hdr.out.row.keptS hk2 hgs
      have hcap := ho.cap
      have HZ := Lib.hid ho.length
      obtain ⟨b, rfl, hb⟩ := ho.addr (by omega)
      have zw := HK.out.size
      clear hk2
      by_cases t0 : r2 = 0
      · go_wp2_with fail
        refine (spec_l01Pick_c _ lo g _ _ _ [0, 1000, 1001] (hs2.alloc _) rfl (by simp) (by simp) (RI.lit _ _ _ rfl) (fun b off e => by injection e with e; injection e with e1 _; have := hs2.lt; omega)).mono ?_
        rintro e w4 ⟨r4, rfl, m4, hs4, hk4⟩
        have ho4 := (Row.alloc ho (.cells #[.int .i64 0, .int .i64 1000, .int .i64 1001] 2)).keptS hk4 hgs
        obtain ⟨⟨y, hg1⟩, hg2⟩ := OI.at_ ho4.oi (j := 0) (by have := HZ.out; omega)
        have hset := OI.set ho4.oi (j := 0) (by have := HZ.out; omega) r4
        rw [Nat.add_zero] at hg1 hg2 hset
        have HS := Lib.hid hset
        have HK4 := Lib.hid ((HK.out.alloc (.cells #[.int .i64 0, .int .i64 1000, .int .i64 1001] 2)).trans hk4)
        have g0 : (0 : Int) < (n : Int) := by omega
        clear hset hk4 m4
        go_wp2_with fail
        go_ret
        refine ⟨_, _, _, _, rfl, Lib.hid (by rw [List.length_set]; exact HZ.out), by omega, by omega, hcap, HS.out.widen (Nat.le_refl _) (by simp [World.setCell]), ?_, HK4.out.setCell (.inr hb) _⟩
        exact hs4.belowB ((Below.refl w.heap.size _).setCell hb _) hgs
      by_cases t1 : r2 = 1
      · have hnews : ∀ (j : Nat) (y : Int), [(1 : Int), 2, 3][j]? = some y → (w2.alloc (.cells #[.int .i64 1, .int .i64 2, .int .i64 3] 2)).cell? ⟨w2.heap.size, 0 + j, none⟩ = some (.int .i64 y) := by
          intro j y hy
          rcases RI.lit w2 #[.int .i64 1, .int .i64 2, .int .i64 3] [1, 2, 3] rfl with h | ⟨b', off', e', -, hc⟩
          · cases h
          · injection e' with e'; injection e' with e1 e2; subst e1 e2
            exact hc j y hy
        have HNW := Lib.hid hnews
        clear hnews
        go_wp2_with (at_builtin; refine wpList_appendS rfl _ _ rfl w.heap.size (some ⟨b, 0, none⟩) n c zs rfl (Row.alloc ho _) w2.heap.size 0 3 3 [1, 2, 3] rfl rfl HNW.out (by omega) (by omega) (by simp; omega) ?_; intro g2 c2 w5 hr5 hb5 hg5)
        go_ret
        exact ⟨_, _, _, _, rfl, Lib.hid hr5.length, by omega, by omega, hr5.cap, hr5.oi, (hs2.alloc _).belowB hb5 hgs, (HK.out.alloc _).belowBase hb5⟩
      by_cases t2 : r2 = 2
      · have g1 : (1 : Int) ≤ (c : Int) := by omega
        have g1' : 1 ≤ c := by omega
        go_wp2_with fail
        go_ret
        exact ⟨_, 1, _, zs.take 1, rfl, Lib.hid (by rw [List.length_take, HZ.out]; omega), by omega, by omega, by omega, ho.oi.take 1, hs2, HK.out⟩
      by_cases t3 : r2 = 3
      · go_wp2_with fail
        go_ret
        exact ⟨_, 5, 5, [997, 991, 983, 977, 971], rfl, Lib.hid rfl, by omega, by omega, by omega, OI.lit _ _ _ _ _ rfl zw (by simp), hs2.alloc _, HK.out.alloc _⟩
      go_wp2_with fail
      go_ret
      exact ⟨_, _, _, zs, rfl, HZ, by omega, by omega, hcap, ho.oi, hs2, HK.out⟩
set_option maxHeartbeats 2000000 in
theorem spec_l29Prizes_c (w : World) (lo g : Nat) (B : Option Addr) (l e0 : Nat) (hs : Src w lo g) (hl : 1 ≤ l) (hl' : l ≤ 8) : Calls Try.prog 155 #[.pointer (some ⟨g, 0, none⟩), .slice B l e0] w (DL w lo g 0 9) := by
  have hgl := hs.lt
  have hgs : g < w.heap.size := hgl.2
  have HL := Lib.hid (And.intro hl hl')
  clear hl hl'
  go_enter Try.func155, Try.ntmps155
  go_wp2_with fail
  refine (spec_l01Pick_c _ lo g _ _ _ [10, 50, 100, 7] ((hs.alloc _).alloc _) rfl (by simp) (by simp) (RI.litH _ _ _ (w.heap.size + 1) (by simp) rfl) (fun b off e => by injection e with e; injection e with e1 _; omega)).mono ?_
  rintro e w0 ⟨r0, rfl, m0, hs0, hk0⟩
  have hr0 : 0 ≤ r0 ∧ r0 ≤ 100 := by simp at m0; omega
  obtain ⟨x0, x1⟩ := hr0
  have HK0 := Lib.hid ((((Kept.refl g (g + 1) w).alloc (.cells #[] 2)).alloc (.cells #[.int .i64 10, .int .i64 50, .int .i64 100, .int .i64 7] 2)).trans hk0)
  have HR0 := Lib.hid (((Row.empty w (Nat.le_refl w.heap.size)).alloc (.cells #[.int .i64 10, .int .i64 50, .int .i64 100, .int .i64 7] 2)).keptS hk0 hgs)
  clear m0 hk0
  go_wp2_with fail
  refine (spec_l01Next_c _ lo g _ hs0 (by have := HL.out; omega)).mono ?_
  rintro e w1 ⟨r1, rfl, p1, q1, hs1, hk1⟩
  have e1 : r1 ≤ 7 := by have := HL.out; omega
  clear q1
  have hd := Lib.hid (Drawing.mk (w := w) (lo := lo) (g := g) (P := fun _ => True) (HR0.out.keptS hk1 hgs) hs1 (HK0.out.trans hk1) (by simp))
  clear hs1 hk1 HK0 HR0
  go_wp2_with fail
  go_loopw [5, 6, 7] (fun o v i wr => ∃ (n k c : Nat) (A : Option Addr) (zs : List Int) (x : Int), o = .slice A n c ∧ v = .int .i64 x ∧ i = .int .i64 k ∧ 0 ≤ x ∧ x ≤ 100 ∧ k + n ≤ 8 ∧ 1 ≤ k + n ∧ Hid (Drawing w lo g wr A n c zs (fun _ => True))) (fun _ _ i _ => (intOf i).toNat)
  case atStart => exact ⟨0, (1 + r1).toNat, 0, _, _, r0, rfl, rfl, by simp; omega, x0, x1, by omega, by omega, hd⟩
  case round =>
    obtain ⟨n, k, c, A, zs, x, rfl, rfl, rfl, y0, y1, hk, hk', hdr⟩ := hrel
    by_cases h0 : 0 < k
    · have H0 : 0 < (k : Int) := by omega
      have hzr := hdr.out.kept.size
      have hro := hdr.out.row
      go_wp2_with (at_builtin; refine wpList_append1 rfl _ _ rfl w.heap.size A n c _ rfl (Row.alloc hro _) wr.heap.size 1 x rfl (by simp) (by omega) (by simp; omega) ?_; intro g2 c2 w5 hr5 hb5 hg5)
      refine (spec_l01Next_c _ lo g _ ((hdr.out.src.alloc _).belowB hb5 hgs) (by omega)).mono ?_
      rintro e w6 ⟨r6, rfl, p6, q6, hs6, hk6⟩
      have HD := Lib.hid (Drawing.mk (P := fun _ => True) (hr5.keptS hk6 hgs) hs6 (((hdr.out.kept.alloc _).belowBase hb5).trans hk6) (by simp))
      have e6 : r6 ≤ x / 2 := by omega
      clear hr5 hb5 hg5 hk6
      go_wp2_with fail
      go_roundw
      case rel => exact ⟨n + 1, k - 1, c2, _, _, x - r6, rfl, rfl, by go_num, by omega, by omega, by omega, by omega, HD⟩
      case measure => simp [intOf]; omega
    · have hke : k = 0 := by omega
      subst hke
      have H0 : ¬ (0 : Int) < ((0 : Nat) : Int) := by simp
      go_wp2_with fail
      refine (spec_l01Next_c _ lo g _ hdr.out.src (by omega)).mono ?_
      rintro e w2 ⟨r2, rfl, p2, q2, hs2, hk2⟩
      have z2 := hk2.size
      have HK := Lib.hid (hdr.out.kept.trans hk2)
      have ho := hdr.out.row.keptS hk2 hgs
      have hcap := ho.cap
      have HZ := Lib.hid ho.length
      obtain ⟨b, rfl, hb⟩ := ho.addr (by omega)
      have zw := HK.out.size
      clear hk2
      by_cases t0 : r2 = 0
      · go_wp2_with fail
        refine (spec_l01Pick_c _ lo g _ _ _ [-1, 100000, 100001] (hs2.alloc _) rfl (by simp) (by simp) (RI.lit _ _ _ rfl) (fun b off e => by injection e with e; injection e with e1 _; have := hs2.lt; omega)).mono ?_
        rintro e w4 ⟨r4, rfl, m4, hs4, hk4⟩
        have ho4 := (Row.alloc ho (.cells #[.int .i64 (-1), .int .i64 100000, .int .i64 100001] 2)).keptS hk4 hgs
        obtain ⟨⟨y, hg1⟩, hg2⟩ := OI.at_ ho4.oi (j := 0) (by have := HZ.out; omega)
        have hset := OI.set ho4.oi (j := 0) (by have := HZ.out; omega) r4
        rw [Nat.add_zero] at hg1 hg2 hset
        have HS := Lib.hid hset
        have HK4 := Lib.hid ((HK.out.alloc (.cells #[.int .i64 (-1), .int .i64 100000, .int .i64 100001] 2)).trans hk4)
        have g0 : (0 : Int) < (n : Int) := by omega
        clear hset hk4 m4
        go_wp2_with fail
        go_ret
        refine ⟨_, _, _, _, rfl, Lib.hid (by rw [List.length_set]; exact HZ.out), by omega, by omega, hcap, HS.out.widen (Nat.le_refl _) (by simp [World.setCell]), ?_, HK4.out.setCell (.inr hb) _⟩
        exact hs4.belowB ((Below.refl w.heap.size _).setCell hb _) hgs
      by_cases t1 : r2 = 1
      · go_wp2_with (at_builtin; refine wpList_append1 rfl _ _ rfl w.heap.size (some ⟨b, 0, none⟩) n c _ rfl (Row.alloc ho _) w2.heap.size 1 1000 rfl (by simp) (by omega) (by simp; omega) ?_; intro g2 c2 w5 hr5 hb5 hg5)
        go_ret
        exact ⟨_, _, _, _, rfl, Lib.hid hr5.length, by omega, by omega, hr5.cap, hr5.oi, (hs2.alloc _).belowB hb5 hgs, (HK.out.alloc _).belowBase hb5⟩
      by_cases t2 : r2 = 2
      · go_wp2_with fail
        go_ret
        exact ⟨_, 0, 0, [], rfl, Lib.hid rfl, by omega, by omega, by omega, OI.nil _ _ _ _, hs2, HK.out⟩
      go_wp2_with fail
      go_ret
      exact ⟨_, _, _, zs, rfl, HZ, by omega, by omega, hcap, ho.oi, hs2, HK.out⟩
/-- Two lists that are drawn. -/
structure DP (w w' : World) (A : Option Addr) (n c : Nat) (zs : List Int) (B : Option Addr) (m d : Nat) (ps : List Int) : Prop where
  l : Hid (zs.length = n)
  n1 : n ≤ 1048576
  r : Hid (RI w' A zs)
  l' : Hid (ps.length = m)
  m1 : m ≤ 1048576
  md : m ≤ d
  r' : Hid (RI w' B ps)
  below : Below w.heap.size w w'
theorem spec_DrawArePrizes_c (A : Option Addr) (n c : Nat) (bs : List Int) (w : World) (hn : bs.length = n) (hm : n ≤ 1048576) (hr : BR w A bs) :
    Calls Try.prog 102 #[.slice A n c] w fun e w' => ∃ (A : Option Addr) (n c : Nat) (zs : List Int) (B : Option Addr) (m d : Nat) (ps : List Int), e = .returned (.tuple #[.slice A n c, .slice B m d]) ∧ DP w w' A n c zs B m d ps := by
  go_enter Try.func102, Try.ntmps102
  go_wp2_with fail
  refine (spec_l01From_c A n c bs _ hn hm hr).mono ?_
  rintro e w0 ⟨g, rfl, hs0, hb0⟩
  obtain ⟨lo, hlo⟩ : ∃ lo, lo = w.heap.size := ⟨_, rfl⟩
  rw [← hlo] at hs0
  have HLO := Lib.hid hlo
  have HB0 := Lib.hid hb0
  have g0 := hs0.lt.2
  clear hlo hb0
  go_wp2_with fail
  refine (spec_l29Stacks_c _ lo g hs0).mono ?_
  rintro e w1 ⟨G, n1, c1, zs, rfl, hl, a1, b1, hc, ho, hs1, hk1⟩
  have HO := Lib.hid ho
  have z1 := hk1.size
  clear ho
  go_wp2_with fail
  refine (spec_l29Prizes_c _ lo g G n1 c1 hs1 a1 b1).mono ?_
  rintro e w2 ⟨G2, n2, c2, ps, rfl, hl2, a2, b2, hc2, ho2, hs2, hk2⟩
  have HO2 := Lib.hid ho2
  clear ho2
  go_wp2_with fail
  go_ret2
  rw [HLO.out] at hs0
  exact ⟨G, n1, c1, zs, G2, n2, c2, ps, rfl, ⟨hl, by omega, Lib.hid (HO.out.kept hk2 (.inl (by omega))).ri, hl2, by omega, hc2, Lib.hid HO2.out.ri, src_below hs0 HB0.out (hk1.trans hk2)⟩⟩
theorem res_tmp4 {fn : Func} {t u v x : Tmp} (h : fn.results = #[.tmp t, .tmp u, .tmp v, .tmp x]) (tmps : Array Value) (P : Program) (w : World) :
    (results fn tmps).run P w = .ok (.tuple #[tmps.getD t undef, tmps.getD u undef, tmps.getD v undef, tmps.getD x undef]) w := by simp [results, h]
theorem res_tmp5 {fn : Func} {t u v x y : Tmp} (h : fn.results = #[.tmp t, .tmp u, .tmp v, .tmp x, .tmp y]) (tmps : Array Value) (P : Program) (w : World) :
    (results fn tmps).run P w = .ok (.tuple #[tmps.getD t undef, tmps.getD u undef, tmps.getD v undef, tmps.getD x undef, tmps.getD y undef]) w := by simp [results, h]
end Go.Proofs.Ythpgkngkmmameaa
