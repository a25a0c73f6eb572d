/-
  What the reference draws for chapter 30. Conditions: a code of at most 1048576 bytes.
-/
import Derived.Test.YthpgkngkmmameaaDrawBase
import Derived.Test.YthpgkngkmmameaaArgB
import Derived.Test.YthpgkngkmmameaaSums
namespace Go.Proofs.Ythpgkngkmmameaa
open Go.RowKit
set_option linter.unusedVariables false
theorem sumL_whole {zs : List Int} {B : Int} (hB : 0 ≤ B) (h : ∀ x ∈ zs, -B ≤ x ∧ x ≤ B) : -(B * zs.length) ≤ sumL zs ∧ sumL zs ≤ B * zs.length := by
  have := sumL_bound hB h zs.length
  rwa [List.take_length] at this
theorem spec_DrawSplitBounty_c (A : Option Addr) (n c : Nat) (bs : List Int) (w : World) (hn : bs.length = n) (hm : n ≤ 1048576) (hr : BR w A bs) :
    Calls Try.prog 25 #[.slice A n c] w fun e w' => ∃ (u k : Int), e = .returned (.tuple #[.int .i64 u, .int .i64 k]) ∧ Below w.heap.size w w' := by
  go_enter Try.func25, Try.ntmps25
  go_wp2_with fail
  refine (spec_l01From_c A n c bs _ hn hm hr).mono ?_
  rintro e w0 ⟨g, rfl, hs0, hb0⟩
  obtain ⟨lo, hlo⟩ : ∃ lo, lo = w.heap.size := ⟨_, rfl⟩
  rw [← hlo] at hs0
  have HLO := Lib.hid hlo
  have HB0 := Lib.hid hb0
  have HS0 := Lib.hid hs0
  clear hlo hb0
  go_wp2_with fail
  refine (spec_l01Next_c _ lo g _ hs0 (by omega)).mono ?_
  rintro e w1 ⟨r1, rfl, p1, q1, hs1, hk1⟩
  go_wp2_with fail
  refine (spec_l01Pick_c _ lo g _ _ _ [0, 1, 10, r1, 1000000, 1000001, -1, 25] (hs1.alloc _) rfl (by simp) (by simp) (RI.lit _ _ _ rfl) (fun b off e => by injection e with e; injection e with e1 _; have := hs1.lt; omega)).mono ?_
  rintro e w2 ⟨u, rfl, m2, hs2, hk2⟩
  have HK2 := Lib.hid (hk1.trans (((Kept.refl g (g + 1) w1).alloc _).trans hk2))
  clear m2 hk1 hk2
  go_wp2_with fail
  refine (spec_l01Next_c _ lo g _ hs2 (by omega)).mono ?_
  rintro e w3 ⟨r3, rfl, p3, q3, hs3, hk3⟩
  have e3 : r3 ≤ 7 := by omega
  go_wp2_with fail
  refine (spec_l01Next_c _ lo g _ hs3 (by omega)).mono ?_
  rintro e w4 ⟨r4, rfl, p4, q4, hs4, hk4⟩
  have e4 : r4 ≤ 15 := by omega
  have HK4 := Lib.hid (HK2.out.trans (hk3.trans hk4))
  clear hk3 hk4
  go_wp2_with fail
  go_ret2
  have hs := HS0.out
  rw [HLO.out] at hs
  exact ⟨_, _, rfl, src_below hs HB0.out HK4.out⟩
set_option maxHeartbeats 2000000 in
theorem spec_DrawDivideMoney_c (A : Option Addr) (n c : Nat) (bs : List Int) (w : World) (hn : bs.length = n) (hm : n ≤ 1048576) (hr : BR w A bs) :
    Calls Try.prog 22 #[.slice A n c] w fun e w' => ∃ (u : Int) (A : Option Addr) (n c : Nat) (zs : List Int), e = .returned (.tuple #[.int .i64 u, .slice A n c]) ∧ Hid (zs.length = n) ∧ n ≤ 1048576 ∧ Hid (RI w' A zs) ∧ Below w.heap.size w w' := by
  go_enter Try.func22, Try.ntmps22
  go_wp2_with fail
  refine (spec_l01From_c A n c bs _ hn hm hr).mono ?_
  rintro e w0 ⟨g, rfl, hs0, hb0⟩
  obtain ⟨lo, hlo⟩ : ∃ lo, lo = w.heap.size := ⟨_, rfl⟩
  rw [← hlo] at hs0
  have HLO := Lib.hid (show ∀ w', Kept g (g + 1) w0 w' → Below w.heap.size w w' from fun w' hk => src_below (by rw [hlo] at hs0; exact hs0) hb0 hk)
  clear hlo hb0 hr hn hm
  go_wp2_with fail
  refine (spec_l01Next_c _ lo g _ hs0 (by omega)).mono ?_
  rintro e w1 ⟨r1, rfl, p1, q1, hs1, hk1⟩
  go_wp2_with fail
  refine (spec_l01Pick_c _ lo g _ _ _ [0, 1, 10, 100, r1, 1000000, 1000001, -1, 7, 17] (hs1.alloc _) rfl (by simp) (by simp) (RI.lit _ _ _ rfl) (fun b off e => by injection e with e; injection e with e1 _; have := hs1.lt; omega)).mono ?_
  rintro e w2 ⟨u, rfl, m2, hs2, hk2⟩
  have HK2 := Lib.hid (hk1.trans (((Kept.refl g (g + 1) w1).alloc _).trans hk2))
  have g2 : g < w2.heap.size := hs2.lt.2
  clear m2 hk1 hk2 p1 q1 hs0 hs1
  go_wp2_with fail
  refine (spec_l01Next_c _ lo g _ (hs2.alloc _) (by omega)).mono ?_
  rintro e w3 ⟨r3, rfl, p3, q3, hs3, hk3⟩
  have e3 : r3 ≤ 4 := by omega
  have hd := Lib.hid (Drawing.mk (w := w2) (lo := lo) (g := g) (P := fun _ => True) ((Row.empty w2 (Nat.le_refl _)).keptS hk3 g2) hs3 (((Kept.refl g (g + 1) w2).alloc _).trans hk3) (by simp))
  clear hs3 hk3 hs2
  go_wp2_with fail
  go_loopw [6, 7] (fun o i wr => ∃ (n k c : Nat) (A : Option Addr) (zs : List Int), o = .slice A n c ∧ i = .int .i64 k ∧ k + n ≤ 5 ∧ 1 ≤ k + n ∧ Hid (Drawing w2 lo g wr A n c zs (fun _ => True))) (fun _ i _ => (intOf i).toNat)
  case atStart => exact ⟨0, (1 + r3).toNat, 0, _, _, rfl, by simp; omega, by omega, by omega, hd⟩
  case round =>
    obtain ⟨n, k, c, A, zs, rfl, rfl, hk, hk', hdr⟩ := hrel
    by_cases h0 : 0 < k
    · have H0 : 0 < (k : Int) := by omega
      have hzr := hdr.out.kept.size
      go_wp2_with fail
      refine (spec_l01Next_c _ lo g _ hdr.out.src (by omega)).mono ?_
      rintro e w4 ⟨r4, rfl, p4, q4, hs4, hk4⟩
      have z4 := hk4.size
      go_wp2_with fail
      refine (spec_l01Pick_c _ lo g _ _ _ [0, 1, 1, 2, 5, r4] (hs4.alloc _) rfl (by simp) (by simp) (RI.lit _ _ _ rfl) (fun b off e => by injection e with e; injection e with e1 _; have := hs4.lt; omega)).mono ?_
      rintro e w5 ⟨r5, rfl, m5, hs5, hk5⟩
      have hk6 := hk4.trans ((Kept.refl g (g + 1) w4).alloc _ |>.trans hk5)
      have ho := hdr.out.row.keptS hk6 g2
      have HK := Lib.hid (hdr.out.kept.trans hk6)
      clear hk4 hk5 hk6 m5
      have z6 := HK.out.size
      go_wp2_with (at_builtin; refine wpList_append1 rfl _ _ rfl w2.heap.size A n c _ rfl (Row.alloc ho _) w5.heap.size 1 r5 rfl (by simp) (by omega) (by simp; omega) ?_; intro g3 c3 w6 hr6 hb6 hg6)
      have HD := Lib.hid (Drawing.mk (P := fun _ => True) hr6 ((hs5.alloc _).belowB hb6 g2) ((HK.out.alloc _).belowBase hb6) (by simp))
      clear hr6 hb6 hg6
      go_roundw
      case rel => exact ⟨n + 1, k - 1, c3, _, _, rfl, by go_num, by omega, by omega, HD⟩
      case measure => simp [intOf]; omega
    · have hke : k = 0 := by omega
      subst hke
      have H0 : ¬ (0 : Int) < ((0 : Nat) : Int) := by simp
      go_wp2_with fail
      refine (spec_l01Next_c _ lo g _ hdr.out.src (by omega)).mono ?_
      rintro e w4 ⟨r4, rfl, p4, q4, hs4, hk4⟩
      have z4 := hk4.size
      have HK := Lib.hid (hdr.out.kept.trans hk4)
      have ho := hdr.out.row.keptS hk4 g2
      have hcap := ho.cap
      have HZ := Lib.hid ho.length
      obtain ⟨b, rfl, hb⟩ := ho.addr (by omega)
      have zw := HK.out.size
      clear hk4
      by_cases t0 : r4 = 0
      · go_wp2_with fail
        refine (spec_l01Pick_c _ lo g _ _ _ [-1, 1000000, 1000001] (hs4.alloc _) rfl (by simp) (by simp) (RI.lit _ _ _ rfl) (fun b off e => by injection e with e; injection e with e1 _; have := hs4.lt; omega)).mono ?_
        rintro e w5 ⟨r5, rfl, m5, hs5, hk5⟩
        have ho5 := (Row.alloc ho (.cells #[.int .i64 (-1), .int .i64 1000000, .int .i64 1000001] 2)).keptS hk5 g2
        obtain ⟨⟨y, hg1⟩, hg2⟩ := OI.at_ ho5.oi (j := 0) (by have := HZ.out; omega)
        have hset := OI.set ho5.oi (j := 0) (by have := HZ.out; omega) r5
        rw [Nat.add_zero] at hg1 hg2 hset
        have HS := Lib.hid hset
        have HK5 := Lib.hid ((HK.out.alloc (.cells #[.int .i64 (-1), .int .i64 1000000, .int .i64 1000001] 2)).trans hk5)
        have gz : (0 : Int) < (n : Int) := by omega
        clear hset hk5 m5
        go_wp2_with fail
        go_ret2
        exact ⟨_, _, _, _, _, rfl, Lib.hid (by rw [List.length_set]; exact HZ.out), by omega, Lib.hid HS.out.ri, HLO.out _ (HK2.out.trans (HK5.out.setCell (.inr hb) _))⟩
      by_cases t1 : r4 = 1
      · have hnews : ∀ (j : Nat) (y : Int), [(1 : Int), 1, 1, 1, 1][j]? = some y → (w4.alloc (.cells #[.int .i64 1, .int .i64 1, .int .i64 1, .int .i64 1, .int .i64 1] 2)).cell? ⟨w4.heap.size, 0 + j, none⟩ = some (.int .i64 y) := by
          intro j y hy
          rcases RI.lit w4 #[.int .i64 1, .int .i64 1, .int .i64 1, .int .i64 1, .int .i64 1] [1, 1, 1, 1, 1] rfl with h | ⟨b', off', e', -, hc⟩
          · cases h
          · injection e' with e'; injection e' with e1 e2; subst e1 e2
            exact hc j y hy
        have HNW := Lib.hid hnews
        clear hnews
        go_wp2_with (at_builtin; refine wpList_appendS rfl _ _ rfl w2.heap.size (some ⟨b, 0, none⟩) n c zs rfl (Row.alloc ho _) w4.heap.size 0 5 5 [1, 1, 1, 1, 1] rfl rfl HNW.out (by omega) (by omega) (by simp; omega) ?_; intro g3 c3 w6 hr6 hb6 hg6)
        go_ret2
        exact ⟨_, _, _, _, _, rfl, Lib.hid hr6.length, by omega, Lib.hid hr6.oi.ri, HLO.out _ (HK2.out.trans ((HK.out.alloc _).belowBase hb6))⟩
      by_cases t2 : r4 = 2
      · go_wp2_with fail
        go_ret2
        exact ⟨_, _, _, _, [], rfl, Lib.hid rfl, by omega, Lib.hid (.inl rfl), HLO.out _ (HK2.out.trans HK.out)⟩
      go_wp2_with fail
      go_ret2
      exact ⟨_, _, _, _, zs, rfl, HZ, by omega, Lib.hid ho.oi.ri, HLO.out _ (HK2.out.trans HK.out)⟩
set_option maxHeartbeats 2000000 in
theorem spec_DrawSavePrize_c (A : Option Addr) (n c : Nat) (bs : List Int) (w : World) (hn : bs.length = n) (hm : n ≤ 1048576) (hr : BR w A bs) :
    Calls Try.prog 28 #[.slice A n c] w fun e w' => ∃ (A : Option Addr) (n c : Nat) (zs : List Int) (u : Int), e = .returned (.tuple #[.slice A n c, .int .i64 u]) ∧ Hid (zs.length = n) ∧ n ≤ 1048576 ∧ Hid (RI w' A zs) ∧ Below w.heap.size w w' := by
  go_enter Try.func28, Try.ntmps28
  go_wp2_with fail
  refine (spec_l01From_c A n c bs _ hn hm hr).mono ?_
  rintro e w0 ⟨g, rfl, hs0, hb0⟩
  obtain ⟨lo, hlo⟩ : ∃ lo, lo = w.heap.size := ⟨_, rfl⟩
  rw [← hlo] at hs0
  have HLO := Lib.hid (show ∀ w', Kept g (g + 1) w0 w' → Below w.heap.size w w' from fun w' hk => src_below (by rw [hlo] at hs0; exact hs0) hb0 hk)
  clear hlo hb0 hr hn hm
  have g0 := hs0.lt.2
  go_wp2_with fail
  refine (spec_l01Next_c _ lo g _ (hs0.alloc _) (by omega)).mono ?_
  rintro e w3 ⟨r3, rfl, p3, q3, hs3, hk3⟩
  have e3 : r3 ≤ 4 := by omega
  have hd := Lib.hid (Drawing.mk (w := w0) (lo := lo) (g := g) (P := fun x => -1 ≤ x ∧ x ≤ 100001) ((Row.empty w0 (Nat.le_refl _)).keptS hk3 g0) hs3 (((Kept.refl g (g + 1) w0).alloc _).trans hk3) (by simp))
  clear hs3 hk3 hs0
  go_wp2_with fail
  go_loopw [5, 6] (fun o i wr => ∃ (n k c : Nat) (A : Option Addr) (zs : List Int), o = .slice A n c ∧ i = .int .i64 k ∧ k + n ≤ 5 ∧ 1 ≤ k + n ∧ Hid (Drawing w0 lo g wr A n c zs (fun x => -1 ≤ x ∧ x ≤ 100001))) (fun _ i _ => (intOf i).toNat)
  case atStart => exact ⟨0, (1 + r3).toNat, 0, _, _, rfl, by simp; omega, by omega, by omega, hd⟩
  case round =>
    obtain ⟨n, k, c, A, zs, rfl, rfl, hk, hk', hdr⟩ := hrel
    by_cases h0 : 0 < k
    · have H0 : 0 < (k : Int) := by omega
      have hzr := hdr.out.kept.size
      go_wp2_with fail
      refine (spec_l01Next_c _ lo g _ hdr.out.src (by omega)).mono ?_
      rintro e w4 ⟨r4, rfl, p4, q4, hs4, hk4⟩
      have z4 := hk4.size
      have e4 : r4 ≤ 99 := by omega
      go_wp2_with fail
      refine (spec_l01Pick_c _ lo g _ _ _ [0, 5, 10, r4, 50] (hs4.alloc _) rfl (by simp) (by simp) (RI.lit _ _ _ rfl) (fun b off e => by injection e with e; injection e with e1 _; have := hs4.lt; omega)).mono ?_
      rintro e w5 ⟨r5, rfl, m5, hs5, hk5⟩
      have hr5b : -1 ≤ r5 ∧ r5 ≤ 100001 := by simp at m5; omega
      have hk6 := hk4.trans ((Kept.refl g (g + 1) w4).alloc _ |>.trans hk5)
      have ho := hdr.out.row.keptS hk6 g0
      have HK := Lib.hid (hdr.out.kept.trans hk6)
      have HA := Lib.hid (show ∀ x ∈ zs ++ [r5], -1 ≤ x ∧ x ≤ 100001 from fun x hx => by
        rcases List.mem_append.1 hx with h | h
        · exact hdr.out.all x h
        · obtain rfl := List.mem_singleton.1 h; exact hr5b)
      clear hk4 hk5 hk6 m5 hr5b
      have z6 := HK.out.size
      go_wp2_with (at_builtin; refine wpList_append1 rfl _ _ rfl w0.heap.size A n c _ rfl (Row.alloc ho _) w5.heap.size 1 r5 rfl (by simp) (by omega) (by simp; omega) ?_; intro g3 c3 w6 hr6 hb6 hg6)
      have HD := Lib.hid (Drawing.mk (P := fun x => -1 ≤ x ∧ x ≤ 100001) hr6 ((hs5.alloc _).belowB hb6 g0) ((HK.out.alloc _).belowBase hb6) HA.out)
      clear hr6 hb6 hg6
      go_roundw
      case rel => exact ⟨n + 1, k - 1, c3, _, _, rfl, by go_num, by omega, by omega, HD⟩
      case measure => simp [intOf]; omega
    · have hke : k = 0 := by omega
      subst hke
      have H0 : ¬ (0 : Int) < ((0 : Nat) : Int) := by simp
      go_wp2_with fail
      refine (spec_l01Next_c _ lo g _ hdr.out.src (by omega)).mono ?_
      rintro e w4 ⟨r4, rfl, p4, q4, hs4, hk4⟩
      have z4 := hk4.size
      have HK := Lib.hid (hdr.out.kept.trans hk4)
      have ho := hdr.out.row.keptS hk4 g0
      have hcap := ho.cap
      have HZ := Lib.hid ho.length
      have HALL := Lib.hid hdr.out.all
      obtain ⟨b, rfl, hb⟩ := ho.addr (by omega)
      have zw := HK.out.size
      clear hk4
      by_cases t0 : r4 = 0
      · go_wp2_with fail
        refine (spec_l01Pick_c _ lo g _ _ _ [-1, 100000, 100001] (hs4.alloc _) rfl (by simp) (by simp) (RI.lit _ _ _ rfl) (fun b off e => by injection e with e; injection e with e1 _; have := hs4.lt; omega)).mono ?_
        rintro e w5 ⟨r5, rfl, m5, hs5, hk5⟩
        have hr5b : -1 ≤ r5 ∧ r5 ≤ 100001 := by simp at m5; omega
        have ho5 := (Row.alloc ho (.cells #[.int .i64 (-1), .int .i64 100000, .int .i64 100001] 2)).keptS hk5 g0
        obtain ⟨⟨y, hg1⟩, hg2⟩ := OI.at_ ho5.oi (j := 0) (by have := HZ.out; omega)
        have hset := OI.set ho5.oi (j := 0) (by have := HZ.out; omega) r5
        rw [Nat.add_zero] at hg1 hg2 hset
        have HSO := Lib.hid hset
        have HS := Lib.hid hset.ri
        have HK5 := Lib.hid (((HK.out.alloc (.cells #[.int .i64 (-1), .int .i64 100000, .int .i64 100001] 2)).trans hk5).setCell (p := ⟨b, 0, none⟩) (.inr hb) (.int .i64 r5))
        have HS5 := Lib.hid (hs5.belowB ((Below.refl w0.heap.size _).setCell (p := ⟨b, 0, none⟩) hb (.int .i64 r5)) g0)
        have HAL := Lib.hid (show ∀ x ∈ zs.set 0 r5, -1 ≤ x ∧ x ≤ 100001 from fun x hx => by
          rcases List.mem_or_eq_of_mem_set hx with h | h
          · exact HALL.out x h
          · subst h; exact hr5b)
        have hlen : (zs.set 0 r5).length = n := by rw [List.length_set]; exact HZ.out
        have gz : (0 : Int) < (n : Int) := by omega
        obtain ⟨ys, hys⟩ : ∃ ys, ys = zs.set 0 r5 := ⟨_, rfl⟩
        rw [← hys] at HS HSO HAL hlen
        have hsum := sumL_whole (zs := ys) (B := 100001) (by omega) (fun x hx => by have := HAL.out x hx; omega)
        have s0 : sumL ys ≤ 600006 := by omega
        have s1 : -600006 ≤ sumL ys := by omega
        have HBD : Hid (∀ x ∈ ys, -4000000000 ≤ x ∧ x ≤ 4000000000) := Lib.hid (fun x hx => by have := HAL.out x hx; omega)
        have HLN := Lib.hid hlen
        clear hset hk5 m5 hys hsum hlen hr5b
        go_wp2_with fail
        refine (spec_l01Sum_c _ _ _ ys _ HLN.out (by omega) HS.out HBD).mono ?_
        rintro e w6 ⟨rfl, rfl⟩
        go_wp2_with fail
        all_goals (
          refine (spec_l01Next_c _ lo g _ HS5.out (by omega)).mono ?_
          rintro e w7 ⟨r7, rfl, p7, q7, hs7, hk7⟩
          have e7 : r7 ≤ 600009 := by omega
          go_wp2_with fail
          refine (spec_l01Next_c _ lo g _ hs7 (by omega)).mono ?_
          rintro e w8 ⟨r8, rfl, p8, q8, hs8, hk8⟩
          have e8 : r8 ≤ 19 := by omega
          have HK8 := Lib.hid (hk7.trans hk8)
          clear hk7 hk8 q7 q8
          go_wp2_with fail
          go_ret2
          exact ⟨_, _, _, ys, _, rfl, HLN, by omega, Lib.hid (HSO.out.kept HK8.out (.inl (by omega)) |>.ri), HLO.out _ (HK5.out.trans HK8.out)⟩)
      by_cases t1 : r4 = 1
      · go_wp2_with fail
        go_ret2
        exact ⟨_, _, _, [], _, rfl, Lib.hid rfl, by omega, Lib.hid (.inl rfl), HLO.out _ HK.out⟩
      have HS := Lib.hid ho.oi.ri
      have hlen := HZ.out
      have hsum := sumL_whole (zs := zs) (B := 100001) (by omega) (fun x hx => by have := HALL.out x hx; omega)
      have s0 : sumL zs ≤ 600006 := by omega
      have s1 : -600006 ≤ sumL zs := by omega
      have HBD : Hid (∀ x ∈ zs, -4000000000 ≤ x ∧ x ≤ 4000000000) := Lib.hid (fun x hx => by have := HALL.out x hx; omega)
      clear hsum hlen
      go_wp2_with fail
      refine (spec_l01Sum_c _ _ _ zs _ HZ.out (by omega) HS.out HBD).mono ?_
      rintro e w6 ⟨rfl, rfl⟩
      go_wp2_with fail
      all_goals (
        refine (spec_l01Next_c _ lo g _ hs4 (by omega)).mono ?_
        rintro e w7 ⟨r7, rfl, p7, q7, hs7, hk7⟩
        have e7 : r7 ≤ 600009 := by omega
        go_wp2_with fail
        refine (spec_l01Next_c _ lo g _ hs7 (by omega)).mono ?_
        rintro e w8 ⟨r8, rfl, p8, q8, hs8, hk8⟩
        have e8 : r8 ≤ 19 := by omega
        have HK8 := Lib.hid (hk7.trans hk8)
        clear hk7 hk8 q7 q8
        go_wp2_with fail
        go_ret2
        exact ⟨_, _, _, zs, _, rfl, HZ, by omega, Lib.hid ((OI.kept ho.oi HK8.out (.inl (by omega))).ri), HLO.out _ (HK.out.trans HK8.out)⟩)
end Go.Proofs.Ythpgkngkmmameaa
