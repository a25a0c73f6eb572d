/-
  PROVED: 'FnPayouts' returns true for every input and leaves its arguments as they were. Conditions: none but the statement's own.
-/
import Derived.Test.YthpgkngkmmameaaFrame
import Derived.Test.YthpgkngkmmameaaArgB
import Derived.Test.YthpgkngkmmameaaDrawEvs
import Derived.Test.YthpgkngkmmameaaDrawPay
import Derived.Test.YthpgkngkmmameaaPay
import Derived.Test.YthpgkngkmmameaaPool
import Derived.Test.YthpgkngkmmameaaFlat
import Derived.Test.YthpgkngkmmameaaPayLaw
import Derived.Test.YthpgkngkmmameaaLike
import Derived.Test.YthpgkngkmmameaaLawSum
namespace Go.Proofs.Ythpgkngkmmameaa.fnPayouts
open Go.ChangeShapes Go.WideShapes Go.ChangeAt Go.RowKit
open Go.ChangeMaps (open_string shut_string)
set_option linter.unusedVariables false

set_option maxRecDepth 20000 in
set_option maxHeartbeats 20000000 in
/-- THE WALK. -/
theorem walk (a0 : Option Addr) (len0 cap0 : Nat) (z0 : List Int) (w : World) (w0 : IsRow .u8 w a0 len0 cap0 z0) :
    Calls Try.prog 10 #[.slice a0 len0 cap0] w fun e w' => e = .returned (.bool true) ∧ Below w.heap.size w w' := by
  have hr := isRow_br w0
  have hl := isRow_len w0
  clear w0
  generalize z0.take len0 = bs at hr hl
  by_cases hbig : 4096 < len0
  · have HB := decide_eq_true hbig
    clear hbig
    go_enter Try.func10, Try.ntmps10
    go_wp2_with fail
    refine (laws_big_c _ _ _ _).mono ?_
    rintro e w' ⟨rfl, rfl⟩
    go_wp2_with fail
    go_ret
    exact ⟨rfl, Below.refl _ _⟩
  have hm : len0 ≤ 1048576 := by omega
  have HB := decide_eq_false hbig
  clear hbig
  have HL := Lib.hid hl
  clear hl
  have b0 := Lib.hid (Below.refl w.heap.size w)
  go_enter Try.func10, Try.ntmps10
  go_wp2_with fail
  refine (laws_big_c _ _ _ _).mono ?_
  rintro e w' ⟨rfl, rfl⟩
  go_wp2_with fail
  refine (spec_DrawPayoutsOf_c a0 len0 cap0 bs _ HL.out hm (hr.below b0.out)).mono ?_
  rintro e w1 ⟨N, B, F, G, A, n, d, S, rfl, hsl, hn6, hro, hb1⟩
  have B1 := Lib.hid (below_step b0.out hb1 b0.out.size)
  clear hb1
  have R := Lib.hid hro.ri
  clear hro
  replace R := Lib.hid (R.out.boxed (.cells #[.int .i64 N, .int .i64 B, .int .i64 F, .int .i64 G, .slice A n d] 58 (0, 0)))
  have X := Lib.hid (E5.new 58 w1 N B F G A n d)
  have C1 := Lib.hid (B1.out.alloc B1.out.size (.cells #[.int .i64 N, .int .i64 B, .int .i64 F, .int .i64 G, .slice A n d] 58 (0, 0)))
  obtain ⟨X0, X1, X2, X3, X4⟩ := X.out.cells
  go_wp2_with fail
  refine (impl_PayoutsOf_c N B F G A n d S _ hsl.out (by omega) R.out).mono ?_
  rintro e w2 ⟨G1, n1, d1, rfl, hl1, hm1, ho1, hb2⟩
  clear X0 X1 X2 X3 X4
  have B2 := Lib.hid (below_step C1.out hb2 C1.out.size)
  replace R := Lib.hid (R.out.below hb2)
  replace X := Lib.hid (X.out.below hb2)
  clear hb2
  have R1 := Lib.hid ho1.ri
  clear ho1
  obtain ⟨X0, X1, X2, X3, X4⟩ := X.out.cells
  go_wp2_with fail
  refine (spec_PayoutsOf_c N B F G A n d S _ hsl.out (by omega) R.out).mono ?_
  rintro e w3 ⟨G2, n2, d2, rfl, hl2, hm2, ho2, hb3⟩
  clear X0 X1 X2 X3 X4
  have B3 := Lib.hid (below_step B2.out hb3 B2.out.size)
  replace R := Lib.hid (R.out.below hb3)
  replace X := Lib.hid (X.out.below hb3)
  replace R1 := Lib.hid (R1.out.below hb3)
  clear hb3
  have R2' := Lib.hid ho2.ri
  clear ho2
  obtain ⟨X0, X1, X2, X3, X4⟩ := X.out.cells
  go_wp2_with fail
  refine (impl_PrizePool_c N B F G A n d S _ hsl.out (by omega) R.out).mono ?_
  rintro e w4 ⟨rfl, hb4⟩
  clear X0 X1 X2 X3 X4
  have B4 := Lib.hid (below_step B3.out hb4 B3.out.size)
  replace R := Lib.hid (R.out.below hb4)
  replace X := Lib.hid (X.out.below hb4)
  replace R1 := Lib.hid (R1.out.below hb4)
  replace R2' := Lib.hid (R2'.out.below hb4)
  clear hb4
  obtain ⟨X0, X1, X2, X3, X4⟩ := X.out.cells
  go_wp2_with fail
  refine (spec_PrizePool_c N B F G A n d S _ hsl.out (by omega) R.out).mono ?_
  rintro e w5 ⟨rfl, hb5⟩
  clear X0 X1 X2 X3 X4
  have B5 := Lib.hid (below_step B4.out hb5 B4.out.size)
  replace R := Lib.hid (R.out.below hb5)
  replace X := Lib.hid (X.out.below hb5)
  replace R1 := Lib.hid (R1.out.below hb5)
  replace R2' := Lib.hid (R2'.out.below hb5)
  clear hb5
  obtain ⟨X0, X1, X2, X3, X4⟩ := X.out.cells
  go_wp2_with fail
  refine (impl_HouseTake_c N B F G A n d S _ hsl.out (by omega) R.out).mono ?_
  rintro e w6 ⟨rfl, hb6⟩
  clear X0 X1 X2 X3 X4
  have B6 := Lib.hid (below_step B5.out hb6 B5.out.size)
  replace R := Lib.hid (R.out.below hb6)
  replace X := Lib.hid (X.out.below hb6)
  replace R1 := Lib.hid (R1.out.below hb6)
  replace R2' := Lib.hid (R2'.out.below hb6)
  clear hb6
  obtain ⟨X0, X1, X2, X3, X4⟩ := X.out.cells
  go_wp2_with fail
  refine (spec_HouseTake_c N B F G A n d S _ hsl.out (by omega) R.out).mono ?_
  rintro e w7 ⟨rfl, hb7⟩
  clear X0 X1 X2 X3 X4
  have B7 := Lib.hid (below_step B6.out hb7 B6.out.size)
  replace R := Lib.hid (R.out.below hb7)
  replace X := Lib.hid (X.out.below hb7)
  replace R1 := Lib.hid (R1.out.below hb7)
  replace R2' := Lib.hid (R2'.out.below hb7)
  clear hb7
  obtain ⟨X0, X1, X2, X3, X4⟩ := X.out.cells
  go_wp2_with fail
  refine (spec_DrawFlatShares_c a0 len0 cap0 bs _ HL.out hm (hr.below B7.out)).mono ?_
  rintro e w8 ⟨k, rfl, k0, k1, hb8⟩
  clear X0 X1 X2 X3 X4
  have B8 := Lib.hid (below_step B7.out hb8 B7.out.size)
  replace R := Lib.hid (R.out.below hb8)
  replace X := Lib.hid (X.out.below hb8)
  replace R1 := Lib.hid (R1.out.below hb8)
  replace R2' := Lib.hid (R2'.out.below hb8)
  clear hb8
  obtain ⟨X0, X1, X2, X3, X4⟩ := X.out.cells
  go_wp2_with fail
  refine (impl_FlatShares_c k _).mono ?_
  rintro e w9 ⟨G3, n3, d3, rfl, hl3, hm3, ho3, hb9⟩
  clear X0 X1 X2 X3 X4
  have B9 := Lib.hid (below_step B8.out hb9 B8.out.size)
  replace R := Lib.hid (R.out.below hb9)
  replace X := Lib.hid (X.out.below hb9)
  replace R1 := Lib.hid (R1.out.below hb9)
  replace R2' := Lib.hid (R2'.out.below hb9)
  clear hb9
  have R3 := Lib.hid ho3.ri
  clear ho3
  obtain ⟨X0, X1, X2, X3, X4⟩ := X.out.cells
  go_wp2_with fail
  refine (spec_FlatShares_c k _).mono ?_
  rintro e w10 ⟨G4, n4, d4, rfl, hl4, hm4, ho4, hb10⟩
  clear X0 X1 X2 X3 X4
  have B10 := Lib.hid (below_step B9.out hb10 B9.out.size)
  replace R := Lib.hid (R.out.below hb10)
  replace X := Lib.hid (X.out.below hb10)
  replace R1 := Lib.hid (R1.out.below hb10)
  replace R2' := Lib.hid (R2'.out.below hb10)
  replace R3 := Lib.hid (R3.out.below hb10)
  clear hb10
  have R4 := Lib.hid ho4.ri
  clear ho4
  obtain ⟨X0, X1, X2, X3, X4⟩ := X.out.cells
  go_wp2_with fail
  refine (laws_likeInts_c G1 G2 n1 n2 d1 d2 (pvV N B F G S) _ hl1.out hl2.out hm1 R1.out R2'.out).mono ?_
  rintro e w11 ⟨rfl, hb11⟩
  clear X0 X1 X2 X3 X4
  have B11 := Lib.hid (below_step B10.out hb11 B10.out.size)
  replace R := Lib.hid (R.out.below hb11)
  replace X := Lib.hid (X.out.below hb11)
  replace R1 := Lib.hid (R1.out.below hb11)
  replace R2' := Lib.hid (R2'.out.below hb11)
  replace R3 := Lib.hid (R3.out.below hb11)
  replace R4 := Lib.hid (R4.out.below hb11)
  clear hb11
  obtain ⟨X0, X1, X2, X3, X4⟩ := X.out.cells
  go_wp2_with fail
  refine (laws_likeInts_c G3 G4 n3 n4 d3 d4 (fsV k) _ hl3.out hl4.out hm3 R3.out R4.out).mono ?_
  rintro e w12 ⟨rfl, hb12⟩
  clear X0 X1 X2 X3 X4
  have B12 := Lib.hid (below_step B11.out hb12 B11.out.size)
  replace R := Lib.hid (R.out.below hb12)
  replace X := Lib.hid (X.out.below hb12)
  replace R1 := Lib.hid (R1.out.below hb12)
  replace R2' := Lib.hid (R2'.out.below hb12)
  replace R3 := Lib.hid (R3.out.below hb12)
  replace R4 := Lib.hid (R4.out.below hb12)
  clear hb12
  obtain ⟨X0, X1, X2, X3, X4⟩ := X.out.cells
  go_wp2_with fail
  refine (impl_IsEvent_c N B F G A n d S _ hsl.out (by omega) R.out).mono ?_
  rintro e w13 ⟨rfl, hb13⟩
  clear X0 X1 X2 X3 X4
  have B13 := Lib.hid (below_step B12.out hb13 B12.out.size)
  replace R := Lib.hid (R.out.below hb13)
  replace X := Lib.hid (X.out.below hb13)
  replace R1 := Lib.hid (R1.out.below hb13)
  replace R2' := Lib.hid (R2'.out.below hb13)
  replace R3 := Lib.hid (R3.out.below hb13)
  replace R4 := Lib.hid (R4.out.below hb13)
  clear hb13
  have HF := Lib.hid (fs_law (p := k))
  obtain ⟨E1, hE1⟩ : ∃ E, fsE k = E := ⟨_, rfl⟩
  rw [hE1] at HF
  rw [hE1]
  clear hE1
  by_cases z1 : E1 = 0
  · subst z1
    obtain ⟨hs1, HB1⟩ := HF.out rfl
    have HS1 := Lib.hid hs1
    clear HF hs1
    cases hev : evB N B F G S
    · have q1 : ppE N B F G S = 1 := by simp [ppE, hev]
      rw [q1]
      clear q1 hev
      go_wp2_with (go_at_call 32; ((with_reducible refine (laws_sum_c _ _ _ (fsV k) _ hl3.out hm3 R3.out HB1).mono ?_); rintro e w' ⟨rfl, rfl⟩; rw [HS1.out]))
      go_ret
      exact ⟨rfl, B13.out⟩
    · have q1 : ppE N B F G S = 0 := by simp [ppE, hev]
      obtain ⟨p1, p2, p3, p4, p5, p6, ⟨p7, p7b⟩, p8, p9, p10, p11, p12, p13⟩ := pay_all hev
      obtain ⟨u, hu⟩ : ∃ u, ppA N B F G S = u := ⟨_, rfl⟩
      obtain ⟨t, ht⟩ : ∃ t, htA N B F G S = t := ⟨_, rfl⟩
      obtain ⟨o, ho⟩ : ∃ o, ppB N B F G S = o := ⟨_, rfl⟩
      rw [hu, ho, ht, q1]
      rw [hu, ht] at p6
      rw [hu] at p2 p8 p9
      rw [ho] at p5
      rw [ht] at p10 p11
      have HS := Lib.hid p2
      have HW := p3
      have HD := Lib.hid p4
      have HT := Lib.hid p6
      have hnn : n1 ≤ 12 := by have := hl1.out; have := p1; omega
      clear p2 p3 p4 p6 p1 q1 hu ho ht hev
      obtain ⟨X0, X1, X2, X3, X4⟩ := X.out.cells
      go_wp2_with (go_at_call 32; ((with_reducible refine (laws_sum_c _ _ _ (fsV k) _ hl3.out hm3 R3.out HB1).mono ?_); rintro e w' ⟨rfl, rfl⟩; rw [HS1.out]))
      go_loopw [23] (fun i wr => ∃ j q : Nat, i = .int .i64 j ∧ 1 ≤ j ∧ (j ≤ n1 ∨ j = 1) ∧ wr = w13.drewN q) (fun i _ => n1 - (intOf i).toNat)
      case atStart => exact ⟨1, 0, rfl, Nat.le_refl _, .inr rfl, rfl⟩
      case round =>
        obtain ⟨j, q, rfl, hj1, hj, rfl⟩ := hrel
        by_cases hlt : j < n1
        · obtain ⟨x, hx⟩ := get_some (zs := pvV N B F G S) (k := j) (by have := hl1.out; omega)
          obtain ⟨y, hy⟩ := get_some (zs := pvV N B F G S) (k := j - 1) (by have := hl1.out; omega)
          have hle := HD.out j x y (by omega) hx hy
          rcases R1.out.split with h0 | ⟨g1, o1, rfl, hgl1, hc1⟩
          · exfalso; have := hl1.out; omega
          have hcx := hc1.out j x hx
          have hcy := hc1.out (j - 1) y hy
          have i1 : (j : Int) < (n1 : Int) := by omega
          have i2 : 1 ≤ (j : Int) := by omega
          have i3 : ((j : Int) - 1).toNat = j - 1 := by omega
          have i4 : ¬ y < x := by omega
          have i5 : (j : Int) - 1 < (n1 : Int) := by omega
          have i6 : 0 ≤ (j : Int) - 1 := by omega
          have i7 : IntKind.i64.wrap ((j : Int) - 1) = (j : Int) - 1 := by rw [IntKind.wrap_i64]; omega
          clear hx hy hc1
          go_wp2_with fail
          go_quiet (fail)
          clear i7
          go_wp2_with fail
          go_roundw
          case rel => exact ⟨j + 1, _, by go_num, by omega, by omega, rfl⟩
          case measure => simp [intOf]; omega
        · have i1 : ¬ (j : Int) < (n1 : Int) := by omega
          go_wp2_with (go_at_call 32; refine (laws_sum_c _ _ _ (pvV N B F G S) _ hl1.out hm1 (R1.out.drewN _) HW).mono ?_; rintro e w' ⟨rfl, rfl⟩; rw [HS.out])
          go_ret
          exact ⟨ret_bool (by simp [HT.out]), below_drewN B13.out _⟩
  · have z1' : (E1 == 0) = false := by simp [z1]
    cases hev : evB N B F G S
    · have q1 : ppE N B F G S = 1 := by simp [ppE, hev]
      rw [q1]
      clear q1 hev
      go_wp2_with (go_at_call 32; ((with_reducible refine (laws_sum_c _ _ _ (fsV k) _ hl3.out hm3 R3.out HB1).mono ?_); rintro e w' ⟨rfl, rfl⟩; rw [HS1.out]))
      go_ret
      exact ⟨rfl, B13.out⟩
    · have q1 : ppE N B F G S = 0 := by simp [ppE, hev]
      obtain ⟨p1, p2, p3, p4, p5, p6, ⟨p7, p7b⟩, p8, p9, p10, p11, p12, p13⟩ := pay_all hev
      obtain ⟨u, hu⟩ : ∃ u, ppA N B F G S = u := ⟨_, rfl⟩
      obtain ⟨t, ht⟩ : ∃ t, htA N B F G S = t := ⟨_, rfl⟩
      obtain ⟨o, ho⟩ : ∃ o, ppB N B F G S = o := ⟨_, rfl⟩
      rw [hu, ho, ht, q1]
      rw [hu, ht] at p6
      rw [hu] at p2 p8 p9
      rw [ho] at p5
      rw [ht] at p10 p11
      have HS := Lib.hid p2
      have HW := p3
      have HD := Lib.hid p4
      have HT := Lib.hid p6
      have hnn : n1 ≤ 12 := by have := hl1.out; have := p1; omega
      clear p2 p3 p4 p6 p1 q1 hu ho ht hev
      obtain ⟨X0, X1, X2, X3, X4⟩ := X.out.cells
      go_wp2_with (go_at_call 32; ((with_reducible refine (laws_sum_c _ _ _ (fsV k) _ hl3.out hm3 R3.out HB1).mono ?_); rintro e w' ⟨rfl, rfl⟩; rw [HS1.out]))
      go_loopw [23] (fun i wr => ∃ j q : Nat, i = .int .i64 j ∧ 1 ≤ j ∧ (j ≤ n1 ∨ j = 1) ∧ wr = w13.drewN q) (fun i _ => n1 - (intOf i).toNat)
      case atStart => exact ⟨1, 0, rfl, Nat.le_refl _, .inr rfl, rfl⟩
      case round =>
        obtain ⟨j, q, rfl, hj1, hj, rfl⟩ := hrel
        by_cases hlt : j < n1
        · obtain ⟨x, hx⟩ := get_some (zs := pvV N B F G S) (k := j) (by have := hl1.out; omega)
          obtain ⟨y, hy⟩ := get_some (zs := pvV N B F G S) (k := j - 1) (by have := hl1.out; omega)
          have hle := HD.out j x y (by omega) hx hy
          rcases R1.out.split with h0 | ⟨g1, o1, rfl, hgl1, hc1⟩
          · exfalso; have := hl1.out; omega
          have hcx := hc1.out j x hx
          have hcy := hc1.out (j - 1) y hy
          have i1 : (j : Int) < (n1 : Int) := by omega
          have i2 : 1 ≤ (j : Int) := by omega
          have i3 : ((j : Int) - 1).toNat = j - 1 := by omega
          have i4 : ¬ y < x := by omega
          have i5 : (j : Int) - 1 < (n1 : Int) := by omega
          have i6 : 0 ≤ (j : Int) - 1 := by omega
          have i7 : IntKind.i64.wrap ((j : Int) - 1) = (j : Int) - 1 := by rw [IntKind.wrap_i64]; omega
          clear hx hy hc1
          go_wp2_with fail
          go_quiet (fail)
          clear i7
          go_wp2_with fail
          go_roundw
          case rel => exact ⟨j + 1, _, by go_num, by omega, by omega, rfl⟩
          case measure => simp [intOf]; omega
        · have i1 : ¬ (j : Int) < (n1 : Int) := by omega
          go_wp2_with (go_at_call 32; refine (laws_sum_c _ _ _ (pvV N B F G S) _ hl1.out hm1 (R1.out.drewN _) HW).mono ?_; rintro e w' ⟨rfl, rfl⟩; rw [HS.out])
          go_ret
          exact ⟨ret_bool (by simp [HT.out]), below_drewN B13.out _⟩

set_option maxRecDepth 100000 in
theorem lifted (os : Os) (started : os.Started) (H : Type) (enc : TypeId × Value → H) :
    ReturnsInHanded {} Try.checked os 10 .any (Rows.fnPayoutsSpec.pre6 enc Try.prog Try.f10 Rows.fnPayoutsRow.domain false) (Rows.fnPayoutsSpec.post enc Try.prog Try.f10 false true false false) := by
  refine returnsInHanded_of_change (C := Try.checked) own started (by kernel_rfl) Try.func10
    (ChangeSpec.witness6 (enc := enc) (C := Try.checked) false ⟨#[], #[.slice none 0 0], []⟩ 8 (by kernel_rfl) (by kernel_rfl) (by kernel_rfl) (by kernel_rfl)) ?_
  intro W base args ds gs before hval0 hW hcnd _
  have hval : ∀ (j : Nat) t v, Try.f10.params[j]? = some t → args[j]? = some v → Value.okWide Try.prog W .any base t v := hval0
  have hW' := hW
  obtain ⟨p, q, hA0, hV, rfl, hfz, hnd⟩ := hW
  have hA : DataW.TrodAll enc Try.prog W 0 (fun _ => true) true Try.f10.params.toList args.toList ds p := hA0
  rw [Try.params10] at hA hval
  obtain ⟨v0, vs0, d0, ds0, p0, q0, hargs, rfl, rfl, h0, r0⟩ := trodAll_cons hA
  obtain ⟨rfl, rfl, rfl⟩ := trodAll_nil r0
  obtain rfl : args = #[v0] := by cases args; simp_all
  obtain ⟨rfl, rfl⟩ := trodVars_none hV
  obtain ⟨a0, len0, cap0, rfl⟩ := okWide_slice Try.underlying31 (hval 0 31 v0 rfl rfl)
  have k0 := h0
  have lt0 : ∀ x ∈ p0, x.block < W.heap.size := by obtain ⟨m, hm⟩ := k0; exact DataW.trod_lt m _ _ _ hm
  obtain ⟨z0, w0⟩ : ∃ zs, IsRow .u8 W a0 len0 cap0 zs := by
    obtain ⟨fuel, hf⟩ := h0
    rcases open_ints Try.underlying31 Try.underlying5 (by kernel_rfl) hf with ⟨hcs, _⟩ | ⟨x, l, c, zs, hcs, _, hl, hm, hz, _, hcell, hwz⟩
    · simp [Value.cells] at hcs
      obtain ⟨rfl, rfl, rfl⟩ := hcs
      exact ⟨[], .inl ⟨rfl, rfl, rfl, rfl⟩⟩
    · simp [Value.cells] at hcs
      obtain ⟨rfl, rfl, rfl⟩ := hcs
      exact ⟨zs, .inr ⟨_, rfl, hl, hm, by simpa using hz, hcell, hwz⟩⟩
  clear hA0 hval0
  refine (walk a0 len0 cap0 z0 W w0).mono fun e W' ⟨he, bel⟩ => ?_
  subst he
  exact ⟨_, rfl, _, _, _, [], _, [], hW', trodAll_mk1 (shut_bool Try.underlying4 _), (trodAll_cons_mk (Below.trod laidOut (by kernel_rfl) (of_decide_eq_true (by kernel_rfl)) k0 bel lt0) trodAll_mk0), rfl, bel.frame _, fun h => by cases h⟩

theorem over : Rows.fnPayoutsRow.holds Try.pinned (OpenSpec.ofChange Rows.fnPayoutsSpec) :=
  OpenClaim.holds_of_wide 10 Try.f10 rfl rfl rfl rfl rfl rfl rfl ⟨rfl, rfl, rfl, rfl, rfl⟩ rfl rfl rfl rfl rfl (by kernel_rfl) Try.func10 (by kernel_rfl)
    (of_decide_eq_true (by kernel_rfl)) (by unfold Func.isWrapper; first | (rw [if_pos (by decide +kernel)]; kernel_rfl) | (rw [if_neg (by decide +kernel)]; exact ⟨rfl, rfl⟩))
    (fun os started H enc _ => lifted os started H enc)

/-- THE STATEMENT. -/
theorem proved : Rows.FnPayoutsSaid := over
#print axioms proved
end Go.Proofs.Ythpgkngkmmameaa.fnPayouts
