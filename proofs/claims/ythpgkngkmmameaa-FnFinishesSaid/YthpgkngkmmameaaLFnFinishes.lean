/-
  PROVED: 'FnFinishes' returns true for every input and leaves its arguments as they were. Conditions: none but the statement's own.
-/
import Derived.Test.YthpgkngkmmameaaFrame
import Derived.Test.YthpgkngkmmameaaArgB
import Derived.Test.YthpgkngkmmameaaDrawFin
import Derived.Test.YthpgkngkmmameaaWonSpec
import Derived.Test.YthpgkngkmmameaaWon
import Derived.Test.YthpgkngkmmameaaFinImpl
import Derived.Test.YthpgkngkmmameaaFinSpec
import Derived.Test.YthpgkngkmmameaaFin
import Derived.Test.YthpgkngkmmameaaPool
import Derived.Test.YthpgkngkmmameaaFinLaw
import Derived.Test.YthpgkngkmmameaaLike
import Derived.Test.YthpgkngkmmameaaLawSum
namespace Go.Proofs.Ythpgkngkmmameaa.fnFinishes
open Go.ChangeShapes Go.WideShapes Go.ChangeAt Go.RowKit
open Go.ChangeMaps (open_string shut_string)
set_option linter.unusedVariables false

set_option maxRecDepth 20000 in
set_option maxHeartbeats 20000000 in
/-- THE WALK. -/
theorem walk (a0 : Option Addr) (len0 cap0 : Nat) (z0 : List Int) (w : World) (w0 : IsRow .u8 w a0 len0 cap0 z0) :
    Calls Try.prog 11 #[.slice a0 len0 cap0] w fun e w' => e = .returned (.bool true) ∧ Below w.heap.size w w' := by
  have hr := isRow_br w0
  have hl := isRow_len w0
  clear w0
  generalize z0.take len0 = bs at hr hl
  by_cases hbig : 4096 < len0
  · have HB := decide_eq_true hbig
    clear hbig
    go_enter Try.func11, Try.ntmps11
    go_wp2_with fail
    refine (laws_big_c _ _ _ _).mono ?_
    rintro e w' ⟨rfl, rfl⟩
    go_wp2_with fail
    go_ret
    exact ⟨rfl, Below.refl _ _⟩
  have hm : len0 ≤ 1048576 := by omega
  have HB := decide_eq_false hbig
  clear hbig
  have HL := Lib.hid hl
  clear hl
  have b0 := Lib.hid (Below.refl w.heap.size w)
  go_enter Try.func11, Try.ntmps11
  go_wp2_with fail
  refine (laws_big_c _ _ _ _).mono ?_
  rintro e w' ⟨rfl, rfl⟩
  go_wp2_with fail
  refine (spec_DrawPrizesWon_c a0 len0 cap0 bs _ HL.out hm (hr.below b0.out)).mono ?_
  rintro e w1 ⟨N, B, F, G, A, n, d, S, A', n', d', fs, rfl, hsl, hn6, hso, hfl, hfn, hfo, hb1⟩
  have B1 := Lib.hid (below_step b0.out hb1 b0.out.size)
  clear hb1
  have R := Lib.hid hso.ri
  have RF := Lib.hid hfo.ri
  clear hso hfo
  replace R := Lib.hid (R.out.below (below_box w1 (.cells #[.int .i64 N, .int .i64 B, .int .i64 F, .int .i64 G, .slice A n d] 58 (0, 0))))
  replace RF := Lib.hid (RF.out.below (below_box w1 (.cells #[.int .i64 N, .int .i64 B, .int .i64 F, .int .i64 G, .slice A n d] 58 (0, 0))))
  have X := Lib.hid (E5.new 58 w1 N B F G A n d)
  have C1 := Lib.hid (B1.out.alloc B1.out.size (.cells #[.int .i64 N, .int .i64 B, .int .i64 F, .int .i64 G, .slice A n d] 58 (0, 0)))
  obtain ⟨X0, X1, X2, X3, X4⟩ := X.out.cells
  go_wp2_with fail
  refine (impl_PrizesWon_c N B F G A n d S A' n' d' fs _ hsl.out (by omega) R.out hfl.out (by omega) RF.out).mono ?_
  rintro e w2 ⟨G1, n1, d1, rfl, hl1, hm1, ho1, hb2⟩
  clear X0 X1 X2 X3 X4
  have B2 := Lib.hid (below_step C1.out hb2 C1.out.size)
  replace R := Lib.hid (R.out.below hb2)
  replace RF := Lib.hid (RF.out.below hb2)
  replace X := Lib.hid (X.out.below hb2)
  clear hb2
  have R1 := Lib.hid ho1.ri
  clear ho1
  obtain ⟨X0, X1, X2, X3, X4⟩ := X.out.cells
  go_wp2_with fail
  refine (spec_PrizesWon_c N B F G A n d S A' n' d' fs _ hsl.out (by omega) R.out hfl.out (by omega) RF.out).mono ?_
  rintro e w3 ⟨G2, n2, d2, rfl, hl2, hm2, ho2, hb3⟩
  clear X0 X1 X2 X3 X4
  have B3 := Lib.hid (below_step B2.out hb3 B2.out.size)
  replace R := Lib.hid (R.out.below hb3)
  replace RF := Lib.hid (RF.out.below hb3)
  replace X := Lib.hid (X.out.below hb3)
  replace R1 := Lib.hid (R1.out.below hb3)
  clear hb3
  have R2' := Lib.hid ho2.ri
  clear ho2
  obtain ⟨X0, X1, X2, X3, X4⟩ := X.out.cells
  go_wp2_with fail
  refine (spec_DrawFinishesOf_c a0 len0 cap0 bs _ HL.out hm (hr.below B3.out)).mono ?_
  rintro e w4 ⟨N', B', F', G', Ax, nx, dx, Sx, Ar, nr, dr, rows, rfl, hslx, hnx6, hsox, hrl, hrn, hrz, hrm, hb4⟩
  clear X0 X1 X2 X3 X4
  have B4 := Lib.hid (below_step B3.out hb4 B3.out.size)
  replace R := Lib.hid (R.out.below hb4)
  replace RF := Lib.hid (RF.out.below hb4)
  replace X := Lib.hid (X.out.below hb4)
  replace R1 := Lib.hid (R1.out.below hb4)
  replace R2' := Lib.hid (R2'.out.below hb4)
  clear hb4
  have RX := Lib.hid hsox.ri
  have RR := Lib.hid hrm
  have HRZ := Lib.hid (show ∀ g ∈ rows, g.length ≤ 1048576 from fun g hg => Nat.le_trans (hrz.out g hg) (by omega))
  clear hsox hrm hrz
  replace R := Lib.hid (R.out.below (below_box w4 (.cells #[.int .i64 N', .int .i64 B', .int .i64 F', .int .i64 G', .slice Ax nx dx] 58 (0, 0))))
  replace RF := Lib.hid (RF.out.below (below_box w4 (.cells #[.int .i64 N', .int .i64 B', .int .i64 F', .int .i64 G', .slice Ax nx dx] 58 (0, 0))))
  replace X := Lib.hid (X.out.below (below_box w4 (.cells #[.int .i64 N', .int .i64 B', .int .i64 F', .int .i64 G', .slice Ax nx dx] 58 (0, 0))))
  replace R1 := Lib.hid (R1.out.below (below_box w4 (.cells #[.int .i64 N', .int .i64 B', .int .i64 F', .int .i64 G', .slice Ax nx dx] 58 (0, 0))))
  replace R2' := Lib.hid (R2'.out.below (below_box w4 (.cells #[.int .i64 N', .int .i64 B', .int .i64 F', .int .i64 G', .slice Ax nx dx] 58 (0, 0))))
  replace RX := Lib.hid (RX.out.below (below_box w4 (.cells #[.int .i64 N', .int .i64 B', .int .i64 F', .int .i64 G', .slice Ax nx dx] 58 (0, 0))))
  replace RR := Lib.hid (RR.out.below (below_box w4 (.cells #[.int .i64 N', .int .i64 B', .int .i64 F', .int .i64 G', .slice Ax nx dx] 58 (0, 0))))
  have Y := Lib.hid (E5.new 58 w4 N' B' F' G' Ax nx dx)
  have C4 := Lib.hid (B4.out.alloc B4.out.size (.cells #[.int .i64 N', .int .i64 B', .int .i64 F', .int .i64 G', .slice Ax nx dx] 58 (0, 0)))
  obtain ⟨X0, X1, X2, X3, X4⟩ := X.out.cells
  obtain ⟨Y0, Y1, Y2, Y3, Y4⟩ := Y.out.cells
  go_wp2_with fail
  refine (impl_FinishesOf_c N' B' F' G' Ax nx dx Sx Ar nr dr rows _ hslx.out (by omega) RX.out hrl.out (by omega) HRZ RR.out).mono ?_
  rintro e w5 ⟨G3, n3, d3, rfl, hl3, hm3, ho3, hb5⟩
  clear X0 X1 X2 X3 X4
  clear Y0 Y1 Y2 Y3 Y4
  have B5 := Lib.hid (below_step C4.out hb5 C4.out.size)
  replace R := Lib.hid (R.out.below hb5)
  replace RF := Lib.hid (RF.out.below hb5)
  replace X := Lib.hid (X.out.below hb5)
  replace R1 := Lib.hid (R1.out.below hb5)
  replace R2' := Lib.hid (R2'.out.below hb5)
  replace RX := Lib.hid (RX.out.below hb5)
  replace RR := Lib.hid (RR.out.below hb5)
  replace Y := Lib.hid (Y.out.below hb5)
  clear hb5
  have R3 := Lib.hid ho3.ri
  clear ho3
  obtain ⟨X0, X1, X2, X3, X4⟩ := X.out.cells
  obtain ⟨Y0, Y1, Y2, Y3, Y4⟩ := Y.out.cells
  go_wp2_with fail
  refine (spec_FinishesOf_c N' B' F' G' Ax nx dx Sx Ar nr dr rows _ hslx.out (by omega) RX.out hrl.out (by omega) HRZ RR.out).mono ?_
  rintro e w6 ⟨G4, n4, d4, rfl, hl4, hm4, ho4, hb6⟩
  clear X0 X1 X2 X3 X4
  clear Y0 Y1 Y2 Y3 Y4
  have B6 := Lib.hid (below_step B5.out hb6 B5.out.size)
  replace R := Lib.hid (R.out.below hb6)
  replace RF := Lib.hid (RF.out.below hb6)
  replace X := Lib.hid (X.out.below hb6)
  replace R1 := Lib.hid (R1.out.below hb6)
  replace R2' := Lib.hid (R2'.out.below hb6)
  replace RX := Lib.hid (RX.out.below hb6)
  replace RR := Lib.hid (RR.out.below hb6)
  replace Y := Lib.hid (Y.out.below hb6)
  replace R3 := Lib.hid (R3.out.below hb6)
  clear hb6
  have R4 := Lib.hid ho4.ri
  clear ho4
  obtain ⟨X0, X1, X2, X3, X4⟩ := X.out.cells
  obtain ⟨Y0, Y1, Y2, Y3, Y4⟩ := Y.out.cells
  go_wp2_with fail
  refine (laws_likeInts_c G1 G2 n1 n2 d1 d2 (pwV N B F G S fs) _ hl1.out hl2.out hm1 R1.out R2'.out).mono ?_
  rintro e w7 ⟨rfl, hb7⟩
  clear X0 X1 X2 X3 X4
  clear Y0 Y1 Y2 Y3 Y4
  have B7 := Lib.hid (below_step B6.out hb7 B6.out.size)
  replace R := Lib.hid (R.out.below hb7)
  replace RF := Lib.hid (RF.out.below hb7)
  replace X := Lib.hid (X.out.below hb7)
  replace R1 := Lib.hid (R1.out.below hb7)
  replace R2' := Lib.hid (R2'.out.below hb7)
  replace RX := Lib.hid (RX.out.below hb7)
  replace RR := Lib.hid (RR.out.below hb7)
  replace Y := Lib.hid (Y.out.below hb7)
  replace R3 := Lib.hid (R3.out.below hb7)
  replace R4 := Lib.hid (R4.out.below hb7)
  clear hb7
  obtain ⟨X0, X1, X2, X3, X4⟩ := X.out.cells
  obtain ⟨Y0, Y1, Y2, Y3, Y4⟩ := Y.out.cells
  go_wp2_with fail
  refine (laws_likeInts_c G3 G4 n3 n4 d3 d4 (foV N' B' F' G' Sx rows) _ hl3.out hl4.out hm3 R3.out R4.out).mono ?_
  rintro e w8 ⟨rfl, hb8⟩
  clear X0 X1 X2 X3 X4
  clear Y0 Y1 Y2 Y3 Y4
  have B8 := Lib.hid (below_step B7.out hb8 B7.out.size)
  replace R := Lib.hid (R.out.below hb8)
  replace RF := Lib.hid (RF.out.below hb8)
  replace X := Lib.hid (X.out.below hb8)
  replace R1 := Lib.hid (R1.out.below hb8)
  replace R2' := Lib.hid (R2'.out.below hb8)
  replace RX := Lib.hid (RX.out.below hb8)
  replace RR := Lib.hid (RR.out.below hb8)
  replace Y := Lib.hid (Y.out.below hb8)
  replace R3 := Lib.hid (R3.out.below hb8)
  replace R4 := Lib.hid (R4.out.below hb8)
  clear hb8
  obtain ⟨X0, X1, X2, X3, X4⟩ := X.out.cells
  obtain ⟨Y0, Y1, Y2, Y3, Y4⟩ := Y.out.cells
  go_wp2_with fail
  refine (impl_AreFinishes_c N B F G A n d S A' n' d' fs _ hsl.out (by omega) R.out hfl.out (by omega) RF.out).mono ?_
  rintro e w9 ⟨rfl, hb9⟩
  clear X0 X1 X2 X3 X4
  clear Y0 Y1 Y2 Y3 Y4
  have B9 := Lib.hid (below_step B8.out hb9 B8.out.size)
  replace R := Lib.hid (R.out.below hb9)
  replace RF := Lib.hid (RF.out.below hb9)
  replace X := Lib.hid (X.out.below hb9)
  replace R1 := Lib.hid (R1.out.below hb9)
  replace R2' := Lib.hid (R2'.out.below hb9)
  replace RX := Lib.hid (RX.out.below hb9)
  replace RR := Lib.hid (RR.out.below hb9)
  replace Y := Lib.hid (Y.out.below hb9)
  replace R3 := Lib.hid (R3.out.below hb9)
  replace R4 := Lib.hid (R4.out.below hb9)
  clear hb9
  have HX' := Lib.hid (fun h => fo_fin (N := N') (B := B') (F := F') (G := G') (S := Sx) (rows := rows) h)
  obtain ⟨E, hE⟩ : ∃ E, pwE N B F G S fs = E := ⟨_, rfl⟩
  obtain ⟨E1, hE1⟩ : ∃ E, foE N' B' F' G' Sx rows = E := ⟨_, rfl⟩
  rw [hE1] at HX'
  rw [hE, hE1]
  have HE := Lib.hid hE
  clear hE hE1
  by_cases z1 : E1 = 0
  · have HAX := Lib.hid (HX'.out z1)
    subst z1
    clear HX'
    by_cases z0 : E = 0
    · subst z0
      obtain ⟨v1, v2, v3, v4, v5, v6, v7⟩ := pw_law HE.out
      have HAE := Lib.hid v1
      have HEV := Lib.hid (show ppE N B F G S = 0 by simp [ppE, v2])
      have HS := Lib.hid v5
      have HD := Lib.hid v7
      have hnn : n1 = n' := by have := hl1.out; have := hfl.out; omega
      have hn60 : n1 ≤ 60 := by omega
      subst hnn
      rw [HAE.out]
      clear v1 v2 v3 v4 v5 v7
      obtain ⟨X0, X1, X2, X3, X4⟩ := X.out.cells
      obtain ⟨Y0, Y1, Y2, Y3, Y4⟩ := Y.out.cells
      go_wp2_with fail
      refine (impl_AreFinishes_c N' B' F' G' Ax nx dx Sx G3 n3 d3 (foV N' B' F' G' Sx rows) _ hslx.out (by omega) RX.out hl3.out hm3 R3.out).mono ?_
      rintro e w10 ⟨rfl, hb10⟩
      clear X0 X1 X2 X3 X4
      clear Y0 Y1 Y2 Y3 Y4
      have B10 := Lib.hid (below_step B9.out hb10 B9.out.size)
      replace R := Lib.hid (R.out.below hb10)
      replace RF := Lib.hid (RF.out.below hb10)
      replace X := Lib.hid (X.out.below hb10)
      replace R1 := Lib.hid (R1.out.below hb10)
      replace R2' := Lib.hid (R2'.out.below hb10)
      replace RX := Lib.hid (RX.out.below hb10)
      replace RR := Lib.hid (RR.out.below hb10)
      replace Y := Lib.hid (Y.out.below hb10)
      replace R3 := Lib.hid (R3.out.below hb10)
      replace R4 := Lib.hid (R4.out.below hb10)
      clear hb10
      rw [HAX.out]
      obtain ⟨X0, X1, X2, X3, X4⟩ := X.out.cells
      go_wp2_with fail
      refine (impl_PrizePool_c N B F G A n d S _ hsl.out (by omega) R.out).mono ?_
      rintro e w11 ⟨rfl, hb11⟩
      have B11 := Lib.hid (below_step B10.out hb11 B10.out.size)
      replace R1 := Lib.hid (R1.out.below hb11)
      replace RF := Lib.hid (RF.out.below hb11)
      rw [HEV.out]
      obtain ⟨u, hu⟩ : ∃ u, ppA N B F G S = u := ⟨_, rfl⟩
      obtain ⟨o, ho⟩ : ∃ o, ppB N B F G S = o := ⟨_, rfl⟩
      rw [hu] at HS
      rw [hu, ho]
      clear hb11 X0 X1 X2 X3 X4 hu ho
      go_wp2_with fail
      go_loopw [18] (fun i wr => ∃ j q : Nat, i = .int .i64 j ∧ j ≤ n1 ∧ wr = w11.drewN q) (fun i _ => n1 - (intOf i).toNat)
      case atStart => exact ⟨0, 0, rfl, Nat.zero_le _, rfl⟩
      case round =>
        obtain ⟨j, q, rfl, hj, rfl⟩ := hrel
        by_cases hlt : j < n1
        · obtain ⟨x, hx⟩ := get_some (zs := pwV N B F G S fs) (k := j) (by have := hl1.out; omega)
          obtain ⟨p, hp⟩ := get_some (zs := fs) (k := j) (by have := hfl.out; omega)
          rcases R1.out.split with h0 | ⟨g1, o1, rfl, hgl1, hc1⟩
          · exfalso; have := hl1.out; omega
          rcases RF.out.split with h0 | ⟨g2, o2, rfl, hgl2, hc2⟩
          · exfalso; have := hfl.out; omega
          have hcx := hc1.out j x hx
          have hcp := hc2.out j p hp
          have HX := Lib.hid hx
          have HP := Lib.hid hp
          have i1 : (j : Int) < (n1 : Int) := by omega
          have i2 : 0 ≤ (j : Int) := by omega
          clear hx hp
          go_wp2_with fail
          go_loopw [19] (fun i wr => ∃ k q' : Nat, i = .int .i64 k ∧ k ≤ n1 ∧ wr = w11.drewN q') (fun i _ => n1 - (intOf i).toNat)
          case atStart => exact ⟨0, q, rfl, Nat.zero_le _, rfl⟩
          case round =>
            obtain ⟨k, q', rfl, hk, rfl⟩ := hrel
            by_cases hlk : k < n1
            · obtain ⟨y, hy⟩ := get_some (zs := pwV N B F G S fs) (k := k) (by have := hl1.out; omega)
              obtain ⟨r, hr'⟩ := get_some (zs := fs) (k := k) (by have := hfl.out; omega)
              have hcy := hc1.out k y hy
              have hcr := hc2.out k r hr'
              have HO := Lib.hid (HD.out j k x y p r HX.out hy HP.out hr')
              have k1 : (k : Int) < (n1 : Int) := by omega
              have k2 : 0 ≤ (k : Int) := by omega
              clear hy hr'
              by_cases hpr : p < r
              · have hxy : ¬ x < y := by have := HO.out hpr; omega
                have hd : decide (p < r) = true := decide_eq_true hpr
                have hd2 : decide (x < y) = false := decide_eq_false hxy
                go_wp2_with fail
                go_quiet (fail)
                go_wp2_with fail
                go_roundw
                case rel => exact ⟨k + 1, _, by go_num, by omega, rfl⟩
                case measure => simp [intOf]; omega
              · have hd : decide (p < r) = false := decide_eq_false hpr
                go_wp2_with fail
                go_quiet (fail)
                go_wp2_with fail
                go_roundw
                case rel => exact ⟨k + 1, _, by go_num, by omega, rfl⟩
                case measure => simp [intOf]; omega
            · have k1 : ¬ (k : Int) < (n1 : Int) := by omega
              go_wp2_with fail
              go_roundw
              case rel => exact ⟨j + 1, _, by go_num, by omega, rfl⟩
              case measure => simp [intOf]; omega
        · have i1 : ¬ (j : Int) < (n1 : Int) := by omega
          go_wp2_with (go_at_call 32; refine (laws_sum_c _ _ _ (pwV N B F G S fs) _ hl1.out hm1 (R1.out.drewN _) v6).mono ?_; rintro e w' ⟨rfl, rfl⟩; rw [HS.out])
          go_ret
          exact ⟨ret_bool (by simp), below_drewN B11.out _⟩
    · have HAE := Lib.hid (ae_no (show ¬ pwE N B F G S fs = 0 by rw [HE.out]; exact z0))
      have z2 : (E == 0) = false := by simp [z0]
      have z3 : (E != 0) = true := by simp [z0]
      rw [HAE.out]
      obtain ⟨X0, X1, X2, X3, X4⟩ := X.out.cells
      obtain ⟨Y0, Y1, Y2, Y3, Y4⟩ := Y.out.cells
      go_wp2_with fail
      refine (impl_AreFinishes_c N' B' F' G' Ax nx dx Sx G3 n3 d3 (foV N' B' F' G' Sx rows) _ hslx.out (by omega) RX.out hl3.out hm3 R3.out).mono ?_
      rintro e w10 ⟨rfl, hb10⟩
      clear X0 X1 X2 X3 X4
      clear Y0 Y1 Y2 Y3 Y4
      have B10 := Lib.hid (below_step B9.out hb10 B9.out.size)
      replace R := Lib.hid (R.out.below hb10)
      replace RF := Lib.hid (RF.out.below hb10)
      replace X := Lib.hid (X.out.below hb10)
      replace R1 := Lib.hid (R1.out.below hb10)
      replace R2' := Lib.hid (R2'.out.below hb10)
      replace RX := Lib.hid (RX.out.below hb10)
      replace RR := Lib.hid (RR.out.below hb10)
      replace Y := Lib.hid (Y.out.below hb10)
      replace R3 := Lib.hid (R3.out.below hb10)
      replace R4 := Lib.hid (R4.out.below hb10)
      clear hb10
      rw [HAX.out]
      go_wp2_with fail
      go_ret
      exact ⟨rfl, B10.out⟩
  · have z1' : (E1 == 0) = false := by simp [z1]
    by_cases z0 : E = 0
    · subst z0
      obtain ⟨v1, v2, v3, v4, v5, v6, v7⟩ := pw_law HE.out
      have HAE := Lib.hid v1
      have HEV := Lib.hid (show ppE N B F G S = 0 by simp [ppE, v2])
      have HS := Lib.hid v5
      have HD := Lib.hid v7
      have hnn : n1 = n' := by have := hl1.out; have := hfl.out; omega
      have hn60 : n1 ≤ 60 := by omega
      subst hnn
      rw [HAE.out]
      clear v1 v2 v3 v4 v5 v7
      obtain ⟨X0, X1, X2, X3, X4⟩ := X.out.cells
      go_wp2_with fail
      refine (impl_PrizePool_c N B F G A n d S _ hsl.out (by omega) R.out).mono ?_
      rintro e w11 ⟨rfl, hb11⟩
      have B11 := Lib.hid (below_step B9.out hb11 B9.out.size)
      replace R1 := Lib.hid (R1.out.below hb11)
      replace RF := Lib.hid (RF.out.below hb11)
      rw [HEV.out]
      obtain ⟨u, hu⟩ : ∃ u, ppA N B F G S = u := ⟨_, rfl⟩
      obtain ⟨o, ho⟩ : ∃ o, ppB N B F G S = o := ⟨_, rfl⟩
      rw [hu] at HS
      rw [hu, ho]
      clear hb11 X0 X1 X2 X3 X4 hu ho
      go_wp2_with fail
      go_loopw [18] (fun i wr => ∃ j q : Nat, i = .int .i64 j ∧ j ≤ n1 ∧ wr = w11.drewN q) (fun i _ => n1 - (intOf i).toNat)
      case atStart => exact ⟨0, 0, rfl, Nat.zero_le _, rfl⟩
      case round =>
        obtain ⟨j, q, rfl, hj, rfl⟩ := hrel
        by_cases hlt : j < n1
        · obtain ⟨x, hx⟩ := get_some (zs := pwV N B F G S fs) (k := j) (by have := hl1.out; omega)
          obtain ⟨p, hp⟩ := get_some (zs := fs) (k := j) (by have := hfl.out; omega)
          rcases R1.out.split with h0 | ⟨g1, o1, rfl, hgl1, hc1⟩
          · exfalso; have := hl1.out; omega
          rcases RF.out.split with h0 | ⟨g2, o2, rfl, hgl2, hc2⟩
          · exfalso; have := hfl.out; omega
          have hcx := hc1.out j x hx
          have hcp := hc2.out j p hp
          have HX := Lib.hid hx
          have HP := Lib.hid hp
          have i1 : (j : Int) < (n1 : Int) := by omega
          have i2 : 0 ≤ (j : Int) := by omega
          clear hx hp
          go_wp2_with fail
          go_loopw [19] (fun i wr => ∃ k q' : Nat, i = .int .i64 k ∧ k ≤ n1 ∧ wr = w11.drewN q') (fun i _ => n1 - (intOf i).toNat)
          case atStart => exact ⟨0, q, rfl, Nat.zero_le _, rfl⟩
          case round =>
            obtain ⟨k, q', rfl, hk, rfl⟩ := hrel
            by_cases hlk : k < n1
            · obtain ⟨y, hy⟩ := get_some (zs := pwV N B F G S fs) (k := k) (by have := hl1.out; omega)
              obtain ⟨r, hr'⟩ := get_some (zs := fs) (k := k) (by have := hfl.out; omega)
              have hcy := hc1.out k y hy
              have hcr := hc2.out k r hr'
              have HO := Lib.hid (HD.out j k x y p r HX.out hy HP.out hr')
              have k1 : (k : Int) < (n1 : Int) := by omega
              have k2 : 0 ≤ (k : Int) := by omega
              clear hy hr'
              by_cases hpr : p < r
              · have hxy : ¬ x < y := by have := HO.out hpr; omega
                have hd : decide (p < r) = true := decide_eq_true hpr
                have hd2 : decide (x < y) = false := decide_eq_false hxy
                go_wp2_with fail
                go_quiet (fail)
                go_wp2_with fail
                go_roundw
                case rel => exact ⟨k + 1, _, by go_num, by omega, rfl⟩
                case measure => simp [intOf]; omega
              · have hd : decide (p < r) = false := decide_eq_false hpr
                go_wp2_with fail
                go_quiet (fail)
                go_wp2_with fail
                go_roundw
                case rel => exact ⟨k + 1, _, by go_num, by omega, rfl⟩
                case measure => simp [intOf]; omega
            · have k1 : ¬ (k : Int) < (n1 : Int) := by omega
              go_wp2_with fail
              go_roundw
              case rel => exact ⟨j + 1, _, by go_num, by omega, rfl⟩
              case measure => simp [intOf]; omega
        · have i1 : ¬ (j : Int) < (n1 : Int) := by omega
          go_wp2_with (go_at_call 32; refine (laws_sum_c _ _ _ (pwV N B F G S fs) _ hl1.out hm1 (R1.out.drewN _) v6).mono ?_; rintro e w' ⟨rfl, rfl⟩; rw [HS.out])
          go_ret
          exact ⟨ret_bool (by simp), below_drewN B11.out _⟩
    · have HAE := Lib.hid (ae_no (show ¬ pwE N B F G S fs = 0 by rw [HE.out]; exact z0))
      have z2 : (E == 0) = false := by simp [z0]
      have z3 : (E != 0) = true := by simp [z0]
      rw [HAE.out]
      go_wp2_with fail
      go_ret
      exact ⟨rfl, B9.out⟩

set_option maxRecDepth 100000 in
theorem lifted (os : Os) (started : os.Started) (H : Type) (enc : TypeId × Value → H) :
    ReturnsInHanded {} Try.checked os 11 .any (Rows.fnFinishesSpec.pre6 enc Try.prog Try.f11 Rows.fnFinishesRow.domain false) (Rows.fnFinishesSpec.post enc Try.prog Try.f11 false true false false) := by
  refine returnsInHanded_of_change (C := Try.checked) own started (by kernel_rfl) Try.func11
    (ChangeSpec.witness6 (enc := enc) (C := Try.checked) false ⟨#[], #[.slice none 0 0], []⟩ 8 (by kernel_rfl) (by kernel_rfl) (by kernel_rfl) (by kernel_rfl)) ?_
  intro W base args ds gs before hval0 hW hcnd _
  have hval : ∀ (j : Nat) t v, Try.f11.params[j]? = some t → args[j]? = some v → Value.okWide Try.prog W .any base t v := hval0
  have hW' := hW
  obtain ⟨p, q, hA0, hV, rfl, hfz, hnd⟩ := hW
  have hA : DataW.TrodAll enc Try.prog W 0 (fun _ => true) true Try.f11.params.toList args.toList ds p := hA0
  rw [Try.params11] at hA hval
  obtain ⟨v0, vs0, d0, ds0, p0, q0, hargs, rfl, rfl, h0, r0⟩ := trodAll_cons hA
  obtain ⟨rfl, rfl, rfl⟩ := trodAll_nil r0
  obtain rfl : args = #[v0] := by cases args; simp_all
  obtain ⟨rfl, rfl⟩ := trodVars_none hV
  obtain ⟨a0, len0, cap0, rfl⟩ := okWide_slice Try.underlying31 (hval 0 31 v0 rfl rfl)
  have k0 := h0
  have lt0 : ∀ x ∈ p0, x.block < W.heap.size := by obtain ⟨m, hm⟩ := k0; exact DataW.trod_lt m _ _ _ hm
  obtain ⟨z0, w0⟩ : ∃ zs, IsRow .u8 W a0 len0 cap0 zs := by
    obtain ⟨fuel, hf⟩ := h0
    rcases open_ints Try.underlying31 Try.underlying5 (by kernel_rfl) hf with ⟨hcs, _⟩ | ⟨x, l, c, zs, hcs, _, hl, hm, hz, _, hcell, hwz⟩
    · simp [Value.cells] at hcs
      obtain ⟨rfl, rfl, rfl⟩ := hcs
      exact ⟨[], .inl ⟨rfl, rfl, rfl, rfl⟩⟩
    · simp [Value.cells] at hcs
      obtain ⟨rfl, rfl, rfl⟩ := hcs
      exact ⟨zs, .inr ⟨_, rfl, hl, hm, by simpa using hz, hcell, hwz⟩⟩
  clear hA0 hval0
  refine (walk a0 len0 cap0 z0 W w0).mono fun e W' ⟨he, bel⟩ => ?_
  subst he
  exact ⟨_, rfl, _, _, _, [], _, [], hW', trodAll_mk1 (shut_bool Try.underlying4 _), (trodAll_cons_mk (Below.trod laidOut (by kernel_rfl) (of_decide_eq_true (by kernel_rfl)) k0 bel lt0) trodAll_mk0), rfl, bel.frame _, fun h => by cases h⟩

theorem over : Rows.fnFinishesRow.holds Try.pinned (OpenSpec.ofChange Rows.fnFinishesSpec) :=
  OpenClaim.holds_of_wide 11 Try.f11 rfl rfl rfl rfl rfl rfl rfl ⟨rfl, rfl, rfl, rfl, rfl⟩ rfl rfl rfl rfl rfl (by kernel_rfl) Try.func11 (by kernel_rfl)
    (of_decide_eq_true (by kernel_rfl)) (by unfold Func.isWrapper; first | (rw [if_pos (by decide +kernel)]; kernel_rfl) | (rw [if_neg (by decide +kernel)]; exact ⟨rfl, rfl⟩))
    (fun os started H enc _ => lifted os started H enc)

/-- THE STATEMENT. -/
theorem proved : Rows.FnFinishesSaid := over
#print axioms proved
end Go.Proofs.Ythpgkngkmmameaa.fnFinishes
