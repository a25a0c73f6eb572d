/-
  What the reference draws for masks and powers. Conditions: a code of at most 1048576 bytes.
-/
import Derived.Test.YtiglekmlkklofaaDrawCrypt
import Derived.Test.YtiglekmlkklofaaDrawRow
namespace Go.Proofs.Ytiglekmlkklofaa
open Go.RowKit
set_option linter.unusedVariables false
theorem sq_in {x : Int} (h0 : 1 ≤ x) (h1 : x ≤ 2038) : 1 ≤ x * x ∧ x * x ≤ 4153444 := by
  have a := Int.mul_le_mul h0 h0 (by decide) (by omega)
  have b := Int.mul_le_mul h1 h1 (by omega) (by decide)
  omega
set_option maxHeartbeats 2000000 in
theorem spec_l32DrawSquares_c (w : World) (lo g : Nat) (n : Int) (hs : Src w lo g) (hn0 : 0 ≤ n) (hn1 : n ≤ 53) : Calls Try.prog 89 #[.pointer (some ⟨g, 0, none⟩), .int .i64 n] w fun e w' => ∃ A n c zs, e = .returned (.slice A n c) ∧ Hid (zs.length = n) ∧ n ≤ 1048576 ∧ OI w' w.heap.size w'.heap.size A zs ∧ Src w' lo g ∧ Kept g (g + 1) w w' := by
  have hgl := hs.lt
  have hgs : g < w.heap.size := hgl.2
  obtain ⟨n0, rfl⟩ : ∃ n0 : Nat, n = n0 := ⟨n.toNat, by omega⟩
  go_enter Try.func89, Try.ntmps89
  go_wp2_with fail
  have hd := Lib.hid (Drawing.mk (w := w) (lo := lo) (g := g) (P := fun _ => True) ((Row.empty w (Nat.le_refl _))) (hs.alloc _) (((Kept.refl g (g + 1) w).alloc _)) (by simp))
  go_loopw [5, 1] (fun o i wr => ∃ (n k c : Nat) (A : Option Addr) (zs : List Int), o = .slice A n c ∧ i = .int .i64 k ∧ k + n ≤ 53 ∧ Hid (Drawing w lo g wr A n c zs (fun _ => True))) (fun _ i _ => (intOf i).toNat)
  case atStart => exact ⟨0, n0, 0, _, _, rfl, rfl, by omega, hd⟩
  case round =>
    obtain ⟨n, k, c, A, zs, rfl, rfl, hk, hdr⟩ := hrel
    by_cases h0 : 0 < k
    · have H0 : 0 < (k : Int) := by omega
      have hzr := hdr.out.kept.size
      go_wp2_with fail
      refine (spec_l01Next_c _ lo g _ hdr.out.src (by omega)).mono ?_
      rintro e w2 ⟨r2, rfl, p2, q2, hs2, hk2⟩
      have z2 := hk2.size
      have e2 : r2 ≤ 2037 := by omega
      obtain ⟨s0, s1⟩ := sq_in (x := 1 + r2) (by omega) (by omega)
      have ho := hdr.out.row.keptS hk2 hgs
      have HK := Lib.hid (hdr.out.kept.trans hk2)
      clear hk2
      have z4 := HK.out.size
      go_wp2_with (at_builtin; refine wpList_append1 rfl _ _ rfl w.heap.size A n c _ rfl (Row.alloc ho _) w2.heap.size 1 ((1 + r2) * (1 + r2) % 2039) rfl (by simp) (by omega) (by simp; omega) ?_; intro g2 c2 w5 hr5 hb5 hg5)
      have HD := Lib.hid (Drawing.mk (P := fun _ => True) hr5 ((hs2.alloc _).belowB hb5 hgs) ((HK.out.alloc _).belowBase hb5) (by simp))
      clear hr5 hb5 hg5
      go_roundw
      case rel => exact ⟨n + 1, k - 1, c2, _, _, rfl, by go_num, by omega, HD⟩
      case measure => simp [intOf]; omega
    · have hke : k = 0 := by omega
      subst hke
      have H0 : ¬ (0 : Int) < ((0 : Nat) : Int) := by simp
      by_cases hn : 0 < n
      · have g0 : (0 : Int) < (n : Int) := by omega
        go_wp2_with fail
        refine (spec_l01Next_c _ lo g _ hdr.out.src (by omega)).mono ?_
        rintro e w2 ⟨r2, rfl, p2, q2, hs2, hk2⟩
        have z2 := hk2.size
        have HK := Lib.hid (hdr.out.kept.trans hk2)
        have ho := hdr.out.row.keptS hk2 hgs
        have hzl := ho.length
        have HZ := Lib.hid hzl
        obtain ⟨b, rfl, hb⟩ := ho.addr (by omega)
        clear hk2
        by_cases t0 : r2 = 0
        · go_wp2_with fail
          refine (spec_l01Pick_c _ lo g _ _ _ [0, 2039, 2038] (hs2.alloc _) rfl (by simp) (by simp) (RI.lit _ _ _ rfl) (fun b off e => by injection e with e; injection e with e1 _; have := hs2.lt; omega)).mono ?_
          rintro e w4 ⟨r4, rfl, m4, hs4, hk4⟩
          have ho4 := (Row.alloc ho (.cells #[.int .i64 0, .int .i64 2039, .int .i64 2038] 2)).keptS hk4 hgs
          obtain ⟨⟨y, hg1⟩, hg2⟩ := OI.at_ ho4.oi (j := 0) (by omega)
          have hset := OI.set ho4.oi (j := 0) (by omega) r4
          rw [Nat.add_zero] at hg1 hg2 hset
          have HS := Lib.hid hset
          have HK4 := Lib.hid ((HK.out.alloc (.cells #[.int .i64 0, .int .i64 2039, .int .i64 2038] 2)).trans hk4)
          clear hset hk4 m4 hzl
          go_wp2_with fail
          go_ret
          refine ⟨_, _, _, _, rfl, Lib.hid (by rw [List.length_set]; exact HZ.out), by omega, HS.out.widen (Nat.le_refl _) (by simp [World.setCell]), ?_, HK4.out.setCell (.inr hb) _⟩
          exact hs4.belowB ((Below.refl w.heap.size _).setCell hb _) hgs
        · go_wp2_with fail
          go_ret
          exact ⟨_, _, _, zs, rfl, HZ, by omega, ho.oi, hs2, HK.out⟩
      · have g0 : ¬ (0 : Int) < (n : Int) := by omega
        have HZ := Lib.hid hdr.out.row.length
        go_wp2_with fail
        go_ret
        exact ⟨_, _, ⟨_, rfl⟩, zs, HZ, by omega, hdr.out.row.oi, hdr.out.src, hdr.out.kept⟩
theorem spec_DrawMaskList_c (A : Option Addr) (n c : Nat) (bs : List Int) (w : World) (hn : bs.length = n) (hm : n ≤ 1048576) (hr : BR w A bs) :
    Calls Try.prog 48 #[.slice A n c] w fun e w' => ∃ (B : Option Addr) (m d : Nat) (zs : List Int) (k : Int), e = .returned (.tuple #[.slice B m d, .int .i64 k]) ∧ Hid (zs.length = m) ∧ m ≤ 1048576 ∧ RI w' B zs ∧ -1 ≤ k ∧ k ≤ 1019 ∧ Below w.heap.size w w' := by
  go_enter Try.func48, Try.ntmps48
  go_wp2_with fail
  refine (spec_l01From_c A n c bs _ hn hm hr).mono ?_
  rintro e w0 ⟨g, rfl, hs0, hb0⟩
  obtain ⟨lo, hlo⟩ : ∃ lo, lo = w.heap.size := ⟨_, rfl⟩
  rw [← hlo] at hs0
  have HLO := Lib.hid hlo
  have HB0 := Lib.hid hb0
  have hgz := hs0.lt
  clear hlo hb0
  go_wp2_with fail
  refine (spec_l01Pick_c _ lo g _ _ _ [0, 1, 3, 5, 52, 53] (hs0.alloc _) rfl (by simp) (by simp) (RI.lit _ _ _ rfl) (fun b off e => by injection e with e; injection e with e1 _; have := hs0.lt; omega)).mono ?_
  rintro e w1 ⟨r1, rfl, m1, hs1, hk1⟩
  have hr1 : 0 ≤ r1 ∧ r1 ≤ 53 := by simp at m1; omega
  have hlt1 : g + 1 ≤ w1.heap.size := by have := hs1.lt; omega
  go_wp2_with fail
  refine (spec_l32DrawSquares_c _ _ g _ hs1 hr1.1 hr1.2).mono ?_
  rintro e w2 ⟨B, m, d, zs, rfl, hzl, hzm, hri, hs2, hk2⟩
  have hlt := hs2.lt
  have RR0 := Lib.hid hri
  clear hri
  go_wp2_with fail
  refine (spec_l32DrawKey_c _ _ g hs2).mono ?_
  rintro e w3 ⟨k, rfl, k0, k1, hs3, hk3⟩
  go_wp2_with fail
  go_ret2
  rw [HLO.out] at hs0
  refine ⟨B, m, d, zs, k, rfl, hzl, hzm, ?_, k0, k1, src_below hs0 HB0.out ((((Kept.refl g (g + 1) w0).alloc _).trans hk1).trans (hk2.trans hk3))⟩
  exact (RR0.out.kept hk3 (.inl hlt1)).ri
theorem spec_DrawIsSquare_c (A : Option Addr) (n c : Nat) (bs : List Int) (w : World) (hn : bs.length = n) (hm : n ≤ 1048576) (hr : BR w A bs) :
    Calls Try.prog 51 #[.slice A n c] w (DrawC w (-1) 2041) := by
  go_enter Try.func51, Try.ntmps51
  go_wp2_with fail
  refine (spec_l01From_c A n c bs _ hn hm hr).mono ?_
  rintro e w0 ⟨g, rfl, hs0, hb0⟩
  obtain ⟨lo, hlo⟩ : ∃ lo, lo = w.heap.size := ⟨_, rfl⟩
  rw [← hlo] at hs0
  have HLO := Lib.hid hlo
  clear hlo
  go_wp2_with fail
  refine (spec_l01Next_c _ lo g _ hs0 (by omega)).mono ?_
  rintro e w1 ⟨r1, rfl, p1, q1, hs1, hk1⟩
  have z1 := hk1.size
  have e1 : r1 ≤ 2040 := by omega
  go_wp2_with fail
  refine (spec_l01Next_c _ lo g _ hs1 (by omega)).mono ?_
  rintro e w2 ⟨r2, rfl, p2, q2, hs2, hk2⟩
  have z2 := hk2.size
  have e2 : r2 ≤ 19 := by omega
  go_wp2_with fail
  go_ret
  rw [HLO.out] at hs0
  exact ⟨_, rfl, by omega, by omega, src_below hs0 hb0 (hk1.trans hk2)⟩
theorem spec_DrawPowerOf_c (A : Option Addr) (n c : Nat) (bs : List Int) (w : World) (hn : bs.length = n) (hm : n ≤ 1048576) (hr : BR w A bs) :
    Calls Try.prog 50 #[.slice A n c] w fun e w' => ∃ a b : Int, e = .returned (.tuple #[.int .i64 a, .int .i64 b]) ∧ Below w.heap.size w w' := by
  go_enter Try.func50, Try.ntmps50
  go_wp2_with fail
  refine (spec_l01From_c A n c bs _ hn hm hr).mono ?_
  rintro e w0 ⟨g, rfl, hs0, hb0⟩
  obtain ⟨lo, hlo⟩ : ∃ lo, lo = w.heap.size := ⟨_, rfl⟩
  rw [← hlo] at hs0
  have HLO := Lib.hid hlo
  clear hlo
  go_wp2_with fail
  refine (spec_l01Next_c _ lo g _ hs0 (by omega)).mono ?_
  rintro e w1 ⟨r1, rfl, p1, q1, hs1, hk1⟩
  have z1 := hk1.size
  have e1 : r1 ≤ 2037 := by omega
  go_wp2_with fail
  refine (spec_l01Next_c _ lo g _ hs1 (by omega)).mono ?_
  rintro e w2 ⟨r2, rfl, p2, q2, hs2, hk2⟩
  have z2 := hk2.size
  have e2 : r2 ≤ 2037 := by omega
  go_wp2_with fail
  refine (spec_l01Pick_c _ lo g _ _ _ [0, 1, 2, 4, 2038, 2039, 1 + r1, 1 + r2] (hs2.alloc _) rfl (by simp) (by simp) (RI.lit _ _ _ rfl) (fun b off e => by injection e with e; injection e with e1 _; have := hs2.lt; omega)).mono ?_
  rintro e w3 ⟨r3, rfl, m3, hs3, hk3⟩
  have HK3 := Lib.hid ((hk1.trans hk2).trans (((Kept.refl g (g + 1) w2).alloc (.cells #[.int .i64 0, .int .i64 1, .int .i64 2, .int .i64 4, .int .i64 2038, .int .i64 2039, .int .i64 (1 + r1), .int .i64 (1 + r2)] 2)).trans hk3))
  clear hk1 hk2 hk3
  go_wp2_with fail
  refine (spec_l01Next_c _ lo g _ hs3 (by omega)).mono ?_
  rintro e w4 ⟨r4, rfl, p4, q4, hs4, hk4⟩
  have z4 := hk4.size
  have e4 : r4 ≤ 999999 := by omega
  go_wp2_with fail
  refine (spec_l01Pick_c _ lo g _ _ _ [0, 1, 1019, 1018, 2038, r4, 1000000000, 1000000001, -1] (hs4.alloc _) rfl (by simp) (by simp) (RI.lit _ _ _ rfl) (fun b off e => by injection e with e; injection e with e1 _; have := hs4.lt; omega)).mono ?_
  rintro e w5 ⟨r5, rfl, m5, hs5, hk5⟩
  go_wp2_with fail
  go_ret2
  rw [HLO.out] at hs0
  exact ⟨_, _, rfl, src_below hs0 hb0 (HK3.out.trans ((hk4.alloc _).trans hk5))⟩
end Go.Proofs.Ytiglekmlkklofaa
