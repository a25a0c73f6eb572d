/-
  What the reference draws for chapter 33's lists. Conditions: none but the source's.
-/
import Derived.Test.YtcdianhemnpmcaaDrawBank
import Derived.Test.YtcdianhemnpmcaaDrawRow
namespace Go.Proofs.Ytcdianhemnpmcaa
open Go.RowKit
set_option linter.unusedVariables false
set_option maxHeartbeats 2000000 in
theorem spec_l33Draw_c (w : World) (lo g : Nat) (hs : Src w lo g) : Calls Try.prog 62 #[.pointer (some ⟨g, 0, none⟩)] w fun e w' => ∃ A n c zs, e = .returned (.slice A n c) ∧ Hid (zs.length = n) ∧ n ≤ 1048576 ∧ RI w' A zs ∧ Src w' lo g ∧ Kept g (g + 1) w w' := by
  have hgl := hs.lt
  have hgs : g < w.heap.size := hgl.2
  go_enter Try.func62, Try.ntmps62
  go_wp2_with fail
  refine (spec_l01Next_c _ lo g _ (hs.alloc _) (by omega)).mono ?_
  rintro e w1 ⟨r1, rfl, p1, q1, hs1, hk1⟩
  have e1 : r1 ≤ 11 := by omega
  have hd := Lib.hid (Drawing.mk (w := w) (lo := lo) (g := g) (P := fun _ => True) ((Row.empty w (Nat.le_refl _)).keptS hk1 hgs) hs1 (((Kept.refl g (g + 1) w).alloc _).trans hk1) (by simp))
  clear hs1 hk1
  go_wp2_with fail
  go_loopw [3, 4] (fun o i wr => ∃ (n k c : Nat) (A : Option Addr) (zs : List Int), o = .slice A n c ∧ i = .int .i64 k ∧ k + n ≤ 12 ∧ 1 ≤ k + n ∧ Hid (Drawing w lo g wr A n c zs (fun _ => True))) (fun _ i _ => (intOf i).toNat)
  case atStart => exact ⟨0, (1 + r1).toNat, 0, _, _, rfl, by simp; omega, by omega, by omega, hd⟩
  case round =>
    obtain ⟨n, k, c, A, zs, rfl, rfl, hk, hk', hdr⟩ := hrel
    by_cases h0 : 0 < k
    · have H0 : 0 < (k : Int) := by omega
      have hzr := hdr.out.kept.size
      go_wp2_with fail
      refine (spec_l01Next_c _ lo g _ hdr.out.src (by omega)).mono ?_
      rintro e w2 ⟨r2, rfl, p2, q2, hs2, hk2⟩
      have z2 := hk2.size
      have e2 : r2 ≤ 40 := by omega
      go_wp2_with fail
      refine (spec_l01Next_c _ lo g _ hs2 (by omega)).mono ?_
      rintro e w3 ⟨r3, rfl, p3, q3, hs3, hk3⟩
      have z3 := hk3.size
      have e3 : r3 ≤ 40 := by omega
      go_wp2_with fail
      refine (spec_l01Pick_c _ lo g _ _ _ [0, 1, -1, r2 - 20, r3 - 20, 1000, -1000] (hs3.alloc _) rfl (by simp) (by simp) (RI.lit _ _ _ rfl) (fun b off e => by injection e with e; injection e with e1 _; have := hs3.lt; omega)).mono ?_
      rintro e w4 ⟨r4, rfl, m4, hs4, hk4⟩
      have hk5 := (hk2.trans hk3).trans ((Kept.refl g (g + 1) w3).alloc _ |>.trans hk4)
      have ho := hdr.out.row.keptS hk5 hgs
      have HK := Lib.hid (hdr.out.kept.trans hk5)
      clear hk2 hk3 hk4 hk5 m4
      have z4 := HK.out.size
      go_wp2_with (at_builtin; refine wpList_append1 rfl _ _ rfl w.heap.size A n c _ rfl (Row.alloc ho _) w4.heap.size 1 r4 rfl (by simp) (by omega) (by simp; omega) ?_; intro g2 c2 w5 hr5 hb5 hg5)
      have HD := Lib.hid (Drawing.mk (P := fun _ => True) hr5 ((hs4.alloc _).belowB hb5 hgs) ((HK.out.alloc _).belowBase hb5) (by simp))
      clear hr5 hb5 hg5
      go_roundw
      case rel => exact ⟨n + 1, k - 1, c2, _, _, rfl, by go_num, by omega, by omega, HD⟩
      case measure => simp [intOf]; omega
    · have hke : k = 0 := by omega
      subst hke
      have H0 : ¬ (0 : Int) < ((0 : Nat) : Int) := by simp
      go_wp2_with fail
      refine (spec_l01Next_c _ lo g _ hdr.out.src (by omega)).mono ?_
      rintro e w2 ⟨r2, rfl, p2, q2, hs2, hk2⟩
      have z2 := hk2.size
      have HK := Lib.hid (hdr.out.kept.trans hk2)
      have ho := hdr.out.row.keptS hk2 hgs
      have hzl := ho.length
      have HZ := Lib.hid hzl
      obtain ⟨b, rfl, hb⟩ := ho.addr (by omega)
      clear hk2
      by_cases t0 : r2 = 0
      · go_wp2_with fail
        refine (spec_l01Pick_c _ lo g _ _ _ [1001, -1001] (hs2.alloc _) rfl (by simp) (by simp) (RI.lit _ _ _ rfl) (fun b off e => by injection e with e; injection e with e1 _; have := hs2.lt; omega)).mono ?_
        rintro e w4 ⟨r4, rfl, m4, hs4, hk4⟩
        have ho4 := (Row.alloc ho (.cells #[.int .i64 1001, .int .i64 (-1001)] 2)).keptS hk4 hgs
        obtain ⟨⟨y, hg1⟩, hg2⟩ := OI.at_ ho4.oi (j := 0) (by omega)
        have hset := OI.set ho4.oi (j := 0) (by omega) r4
        rw [Nat.add_zero] at hg1 hg2 hset
        have HS := Lib.hid hset
        have HK4 := Lib.hid ((HK.out.alloc (.cells #[.int .i64 1001, .int .i64 (-1001)] 2)).trans hk4)
        have g0 : (0 : Int) < (n : Int) := by omega
        clear hset hk4 m4 hzl
        go_wp2_with fail
        go_ret
        refine ⟨_, _, _, _, rfl, Lib.hid (by rw [List.length_set]; exact HZ.out), by omega, HS.out.ri, ?_, HK4.out.setCell (.inr hb) _⟩
        exact hs4.belowB ((Below.refl w.heap.size _).setCell hb _) hgs
      by_cases t1 : r2 = 1
      · go_wp2_with fail
        go_ret
        exact ⟨_, _, _, [], rfl, Lib.hid rfl, by omega, RI.nil _ _, hs2, HK.out⟩
      by_cases t2 : r2 = 2
      · have HD := Lib.hid (Drawing.mk (P := fun _ => True) ho hs2 HK.out (by simp))
        clear HK ho hzl HZ hdr
        go_wp2_with fail
        go_loopw [3] (fun o wr => ∃ (n c : Nat) (A : Option Addr) (zs : List Int), o = .slice A n c ∧ n ≤ 101 ∧ Hid (Drawing w lo g wr A n c zs (fun _ => True))) (fun o _ => match o with | .slice _ n _ => 200 - n | _ => 0)
        case atStart => exact ⟨n, c, _, _, rfl, by omega, HD⟩
        case round =>
          clear HD
          obtain ⟨m, c', A', ys, rfl, hm, hD⟩ := hrel
          have hzm := hD.out.kept.size
          go_wp2_with fail
          refine (spec_l01Next_c _ lo g _ hD.out.src (by omega)).mono ?_
          rintro e w5 ⟨r5, rfl, p5, q5, hs5, hk5⟩
          have z5 := hk5.size
          have e5 : r5 ≤ 1 := by omega
          by_cases hlt : (m : Int) < 100 + r5
          · go_wp2_with fail
            refine (spec_l01Next_c _ lo g _ hs5 (by omega)).mono ?_
            rintro e w6 ⟨r6, rfl, p6, q6, hs6, hk6⟩
            have z6 := hk6.size
            have e6 : r6 ≤ 4 := by omega
            have hk7 := hk5.trans hk6
            have ho := hD.out.row.keptS hk7 hgs
            have HK := Lib.hid (hD.out.kept.trans hk7)
            clear hk5 hk6 hk7
            have z7 := HK.out.size
            go_wp2_with (at_builtin; refine wpList_append1 rfl _ _ rfl w.heap.size A' m c' _ rfl (Row.alloc ho _) w6.heap.size 1 (r6 - 2) rfl (by simp) (by omega) (by simp; omega) ?_; intro g2 c2 w7 hr7 hb7 hg7)
            have HD := Lib.hid (Drawing.mk (P := fun _ => True) hr7 ((hs6.alloc _).belowB hb7 hgs) ((HK.out.alloc _).belowBase hb7) (by simp))
            clear hr7 hb7 hg7
            go_roundw
            case rel => exact ⟨m + 1, c2, _, _, rfl, by omega, HD⟩
            case measure => simp; omega
          · have HK := Lib.hid (hD.out.kept.trans hk5)
            have ho := hD.out.row.keptS hk5 hgs
            have HZ := Lib.hid ho.length
            clear hk5
            go_wp2_with fail
            go_ret
            exact ⟨_, _, _, ys, rfl, HZ, by omega, ho.oi.ri, hs5, HK.out⟩
      · go_wp2_with fail
        go_ret
        exact ⟨_, _, _, zs, rfl, HZ, by omega, ho.oi.ri, hs2, HK.out⟩
/-- A list drawn from a code. -/
def DrawL (w : World) (e : Ending) (w' : World) : Prop := ∃ A n c zs, e = .returned (.slice A n c) ∧ Hid (zs.length = n) ∧ n ≤ 1048576 ∧ RI w' A zs ∧ Below w.heap.size w w'
theorem spec_DrawVarianceOf_c (A : Option Addr) (n c : Nat) (bs : List Int) (w : World) (hn : bs.length = n) (hm : n ≤ 1048576) (hr : BR w A bs) :
    Calls Try.prog 41 #[.slice A n c] w (DrawL w) := by
  go_enter Try.func41, Try.ntmps41
  go_wp2_with fail
  refine (spec_l01From_c A n c bs _ hn hm hr).mono ?_
  rintro e w1 ⟨g, rfl, hs1, hb1⟩
  go_wp2_with fail
  refine (spec_l33Draw_c _ _ g hs1).mono ?_
  rintro e w2 ⟨B, m, d, zs, rfl, hl, hm2, hri, hs2, hk2⟩
  go_wp2_with fail
  go_ret
  exact ⟨B, m, d, zs, rfl, hl, hm2, hri, src_below hs1 hb1 hk2⟩

theorem spec_DrawGreatestDrop_c (A : Option Addr) (n c : Nat) (bs : List Int) (w : World) (hn : bs.length = n) (hm : n ≤ 1048576) (hr : BR w A bs) :
    Calls Try.prog 36 #[.slice A n c] w (DrawL w) := by
  go_enter Try.func36, Try.ntmps36
  go_wp2_with fail
  refine (spec_l01From_c A n c bs _ hn hm hr).mono ?_
  rintro e w1 ⟨g, rfl, hs1, hb1⟩
  go_wp2_with fail
  refine (spec_l33Draw_c _ _ g hs1).mono ?_
  rintro e w2 ⟨B, m, d, zs, rfl, hl, hm2, hri, hs2, hk2⟩
  go_wp2_with fail
  go_ret
  exact ⟨B, m, d, zs, rfl, hl, hm2, hri, src_below hs1 hb1 hk2⟩
end Go.Proofs.Ytcdianhemnpmcaa
