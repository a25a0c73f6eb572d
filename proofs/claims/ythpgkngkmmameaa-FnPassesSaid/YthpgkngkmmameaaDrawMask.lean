/-
  What the reference draws for masks and powers. Conditions: a code of at most 1048576 bytes.
-/
import Derived.Test.YthpgkngkmmameaaDrawCrypt
import Derived.Test.YthpgkngkmmameaaDrawRow
namespace Go.Proofs.Ythpgkngkmmameaa
open Go.RowKit
set_option linter.unusedVariables false
theorem sq_in {x : Int} (h0 : 1 ≤ x) (h1 : x ≤ 2038) : 1 ≤ x * x ∧ x * x ≤ 4153444 := by
  have a := Int.mul_le_mul h0 h0 (by decide) (by omega)
  have b := Int.mul_le_mul h1 h1 (by omega) (by decide)
  omega
set_option maxHeartbeats 2000000 in
theorem spec_l32DrawSquares_c (w : World) (lo g : Nat) (n : Int) (hs : Src w lo g) (hn0 : 0 ≤ n) (hn1 : n ≤ 53) : Calls Try.prog 128 #[.pointer (some ⟨g, 0, none⟩), .int .i64 n] w fun e w' => ∃ A n c zs, e = .returned (.slice A n c) ∧ Hid (zs.length = n) ∧ n ≤ 1048576 ∧ OI w' w.heap.size w'.heap.size A zs ∧ Src w' lo g ∧ Kept g (g + 1) w w' := by
  have hgl := hs.lt
  have hgs : g < w.heap.size := hgl.2
  obtain ⟨n0, rfl⟩ : ∃ n0 : Nat, n = n0 := ⟨n.toNat, by omega⟩
  go_enter Try.func128, Try.ntmps128
  go_wp2_with fail
  have hd := Lib.hid (Drawing.mk (w := w) (lo := lo) (g := g) (P := fun _ => True) ((Row.empty w (Nat.le_refl _))) (hs.alloc _) (((Kept.refl g (g + 1) w).alloc _)) (by simp))
  go_loopw [5, 1] (fun o i wr => ∃ (n k c : Nat) (A : Option Addr) (zs : List Int), o = .slice A n c ∧ i = .int .i64 k ∧ k + n ≤ 53 ∧ Hid (Drawing w lo g wr A n c zs (fun _ => True))) (fun _ i _ => (intOf i).toNat)
  case atStart => exact ⟨0, n0, 0, _, _, rfl, rfl, by omega, hd⟩
  case round =>
    obtain ⟨n, k, c, A, zs, rfl, rfl, hk, hdr⟩ := hrel
    by_cases h0 : 0 < k
    · have H0 : 0 < (k : Int) := by omega
      have hzr := hdr.out.kept.size
      go_wp2_with fail
      refine (spec_l01Next_c _ lo g _ hdr.out.src (by omega)).mono ?_
      rintro e w2 ⟨r2, rfl, p2, q2, hs2, hk2⟩
      have z2 := hk2.size
      have e2 : r2 ≤ 2037 := by omega
      obtain ⟨s0, s1⟩ := sq_in (x := 1 + r2) (by omega) (by omega)
      have ho := hdr.out.row.keptS hk2 hgs
      have HK := Lib.hid (hdr.out.kept.trans hk2)
      clear hk2
      have z4 := HK.out.size
      go_wp2_with (at_builtin; refine wpList_append1 rfl _ _ rfl w.heap.size A n c _ rfl (Row.alloc ho _) w2.heap.size 1 ((1 + r2) * (1 + r2) % 2039) rfl (by simp) (by omega) (by simp; omega) ?_; intro g2 c2 w5 hr5 hb5 hg5)
      have HD := Lib.hid (Drawing.mk (P := fun _ => True) hr5 ((hs2.alloc _).belowB hb5 hgs) ((HK.out.alloc _).belowBase hb5) (by simp))
      clear hr5 hb5 hg5
      go_roundw
      case rel => exact ⟨n + 1, k - 1, c2, _, _, rfl, by go_num, by omega, HD⟩
      case measure => simp [intOf]; omega
    · have hke : k = 0 := by omega
      subst hke
      have H0 : ¬ (0 : Int) < ((0 : Nat) : Int) := by simp
      by_cases hn : 0 < n
      · have g0 : (0 : Int) < (n : Int) := by omega
        go_wp2_with fail
        refine (spec_l01Next_c _ lo g _ hdr.out.src (by omega)).mono ?_
        rintro e w2 ⟨r2, rfl, p2, q2, hs2, hk2⟩
        have z2 := hk2.size
        have HK := Lib.hid (hdr.out.kept.trans hk2)
        have ho := hdr.out.row.keptS hk2 hgs
        have hzl := ho.length
        have HZ := Lib.hid hzl
        obtain ⟨b, rfl, hb⟩ := ho.addr (by omega)
        clear hk2
        by_cases t0 : r2 = 0
        · go_wp2_with fail
          refine (spec_l01Pick_c _ lo g _ _ _ [0, 2039, 2038] (hs2.alloc _) rfl (by simp) (by simp) (RI.lit _ _ _ rfl) (fun b off e => by injection e with e; injection e with e1 _; have := hs2.lt; omega)).mono ?_
          rintro e w4 ⟨r4, rfl, m4, hs4, hk4⟩
          have ho4 := (Row.alloc ho (.cells #[.int .i64 0, .int .i64 2039, .int .i64 2038] 2)).keptS hk4 hgs
          obtain ⟨⟨y, hg1⟩, hg2⟩ := OI.at_ ho4.oi (j := 0) (by omega)
          have hset := OI.set ho4.oi (j := 0) (by omega) r4
          rw [Nat.add_zero] at hg1 hg2 hset
          have HS := Lib.hid hset
          have HK4 := Lib.hid ((HK.out.alloc (.cells #[.int .i64 0, .int .i64 2039, .int .i64 2038] 2)).trans hk4)
          clear hset hk4 m4 hzl
          go_wp2_with fail
          go_ret
          refine ⟨_, _, _, _, rfl, Lib.hid (by rw [List.length_set]; exact HZ.out), by omega, HS.out.widen (Nat.le_refl _) (by simp [World.setCell]), ?_, HK4.out.setCell (.inr hb) _⟩
          exact hs4.belowB ((Below.refl w.heap.size _).setCell hb _) hgs
        · go_wp2_with fail
          go_ret
          exact ⟨_, _, _, zs, rfl, HZ, by omega, ho.oi, hs2, HK.out⟩
      · have g0 : ¬ (0 : Int) < (n : Int) := by omega
        have HZ := Lib.hid hdr.out.row.length
        go_wp2_with fail
        go_ret
        exact ⟨_, _, ⟨_, rfl⟩, zs, HZ, by omega, hdr.out.row.oi, hdr.out.src, hdr.out.kept⟩
end Go.Proofs.Ythpgkngkmmameaa
