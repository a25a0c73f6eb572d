/-
  PROVED: 'FnMasks' returns true for every input and leaves its arguments as they were. Conditions: none but the statement's own.
-/
import Derived.Test.YtiglekmlkklofaaFrame
import Derived.Test.YtiglekmlkklofaaMaskFacts
import Derived.Test.YtiglekmlkklofaaDrawMask
import Derived.Test.YtiglekmlkklofaaDice
import Derived.Test.YtiglekmlkklofaaLike
namespace Go.Proofs.Ytiglekmlkklofaa.fnMasks
open Go.ChangeShapes Go.WideShapes Go.ChangeAt Go.RowKit
open Go.ChangeMaps (open_string shut_string)
set_option linter.unusedVariables false

set_option maxRecDepth 20000 in
set_option maxHeartbeats 2000000 in
/-- THE WALK. -/
theorem walk (a0 : Option Addr) (len0 cap0 : Nat) (z0 : List Int) (w : World) (w0 : IsRow .u8 w a0 len0 cap0 z0) :
    Calls Try.prog 15 #[.slice a0 len0 cap0] w fun e w' => e = .returned (.bool true) ∧ Below w.heap.size w w' := by
  have hr := isRow_br w0
  have hl := isRow_len w0
  clear w0
  generalize z0.take len0 = bs at hr hl
  by_cases hbig : 4096 < len0
  · have HB := decide_eq_true hbig
    clear hbig
    go_enter Try.func15, Try.ntmps15
    go_wp2_with fail
    refine (laws_big_c _ _ _ _).mono ?_
    rintro e w' ⟨rfl, rfl⟩
    go_wp2_with fail
    go_ret
    exact ⟨rfl, Below.refl _ _⟩
  have hm : len0 ≤ 1048576 := by omega
  have HB := decide_eq_false hbig
  clear hbig
  have HL := Lib.hid hl
  clear hl
  have b0 := Lib.hid (Below.refl w.heap.size w)
  go_enter Try.func15, Try.ntmps15
  go_wp2_with fail
  refine (laws_big_c _ _ _ _).mono ?_
  rintro e w' ⟨rfl, rfl⟩
  go_wp2_with fail
  refine (spec_DrawMaskList_c a0 len0 cap0 bs _ HL.out hm (hr.below b0.out)).mono ?_
  rintro e w1 ⟨A, n, d, zs, key, rfl, hzl, hzm, hri, key0, key1, hb1⟩
  have B1 := Lib.hid (below_step b0.out hb1 b0.out.size)
  clear hb1
  have R := Lib.hid hri
  clear hri
  go_wp2_with fail
  refine (impl_MaskList_c A n d zs key _ hzl.out hzm R.out).mono ?_
  rintro e w2 ⟨G1, n1, d1, rfl, hl1, hm1, ho1, hb2⟩
  have B2 := Lib.hid (below_step B1.out hb2 B1.out.size)
  replace R := Lib.hid (R.out.below hb2)
  clear hb2
  have R1 := Lib.hid ho1.ri
  clear ho1
  go_wp2_with fail
  refine (spec_MaskList_c A n d zs key _ hzl.out hzm R.out).mono ?_
  rintro e w3 ⟨G2, n2, d2, rfl, hl2, hm2, ho2, hb3⟩
  have B3 := Lib.hid (below_step B2.out hb3 B2.out.size)
  replace R := Lib.hid (R.out.below hb3)
  replace R1 := Lib.hid (R1.out.below hb3)
  clear hb3
  have R2' := Lib.hid ho2.ri
  clear ho2
  go_wp2_with fail
  refine (spec_DrawInverseKey_c a0 len0 cap0 bs _ HL.out hm (hr.below B3.out)).mono ?_
  rintro e w4 ⟨k, rfl, k0, k1, hb4⟩
  have B4 := Lib.hid (below_step B3.out hb4 B3.out.size)
  replace R := Lib.hid (R.out.below hb4)
  replace R1 := Lib.hid (R1.out.below hb4)
  replace R2' := Lib.hid (R2'.out.below hb4)
  clear hb4
  go_wp2_with fail
  refine (impl_InverseKey_c _ _).mono ?_
  rintro e w' ⟨rfl, rfl⟩
  go_wp2_with fail
  refine (spec_InverseKey_c _ _).mono ?_
  rintro e w' ⟨rfl, rfl⟩
  go_wp2_with fail
  refine (spec_DrawPowerOf_c a0 len0 cap0 bs _ HL.out hm (hr.below B4.out)).mono ?_
  rintro e w5 ⟨x, e, rfl, hb5⟩
  have B5 := Lib.hid (below_step B4.out hb5 B4.out.size)
  replace R := Lib.hid (R.out.below hb5)
  replace R1 := Lib.hid (R1.out.below hb5)
  replace R2' := Lib.hid (R2'.out.below hb5)
  clear hb5
  go_wp2_with fail
  refine (impl_PowerOf_c _ _ _).mono ?_
  rintro e w' ⟨rfl, rfl⟩
  go_wp2_with fail
  refine (spec_PowerOf_c _ _ _).mono ?_
  rintro e w' ⟨rfl, rfl⟩
  go_wp2_with fail
  refine (spec_DrawIsSquare_c a0 len0 cap0 bs _ HL.out hm (hr.below B5.out)).mono ?_
  rintro e w6 ⟨s, rfl, s0, s1, hb6⟩
  have B6 := Lib.hid (below_step B5.out hb6 B5.out.size)
  replace R := Lib.hid (R.out.below hb6)
  replace R1 := Lib.hid (R1.out.below hb6)
  replace R2' := Lib.hid (R2'.out.below hb6)
  clear hb6
  go_wp2_with fail
  refine (laws_likeInts_c G1 G2 n1 n2 d1 d2 (maskV zs key) _ hl1.out hl2.out hm1 R1.out R2'.out).mono ?_
  rintro e w7 ⟨rfl, hb7⟩
  have B7 := Lib.hid (below_step B6.out hb7 B6.out.size)
  replace R := Lib.hid (R.out.below hb7)
  replace R1 := Lib.hid (R1.out.below hb7)
  replace R2' := Lib.hid (R2'.out.below hb7)
  clear hb7
  have HK : Hid (invE k = 2 ∨ (invE k = 0 ∧ 1 ≤ k ∧ k ≤ 1018 ∧ 1 ≤ invV k ∧ invV k ≤ 1018 ∧ k * invV k % 1019 = 1)) := Lib.hid (by
    by_cases hk : inB k 1 1018 = true
    · obtain ⟨a0, a1⟩ := inB_iff.1 hk
      obtain ⟨i0, i1, i2⟩ := invI_pos k a0 a1
      have hv : invV k = invI k := by unfold invV; rw [if_pos hk]
      exact .inr ⟨by unfold invE; rw [if_pos hk], a0, a1, by rw [hv]; exact ⟨i0, i1, i2⟩⟩
    · exact .inl (by unfold invE; rw [if_neg hk]))
  by_cases hok : maskOk zs key = true
  · have hv1 := (mask_yes hok).1
    have HOK := Lib.hid hok
    clear hok
    rcases HK.out with hi | ⟨hi, ki0, ki1, iv0, iv1, hik⟩
    · go_wp2_with (first | (go_at_call 20; refine (impl_IsSquare_c _ _).mono ?_; rintro e w' ⟨rfl, rfl⟩) | (go_at_call 19; refine (spec_IsSquare_c _ _).mono ?_; rintro e w' ⟨rfl, rfl⟩))
      refine (laws_roll_c a0 len0 cap0 bs _ _ HL.out hm (hr.below B7.out) (by omega) (by omega)).mono ?_
      rintro e w8 ⟨g, h, rfl, hd, hb8⟩
      have D := Lib.hid hd
      clear hd
      go_wp2_with fail
      refine (laws_below_c _ _ _ _ _ _ _ _ _ _ D.out (by omega) (by omega)).mono ?_
      rintro e w9 ⟨r, rfl, r0, r1, -, hk9⟩
      have hb9 := hb8.trans (hk9.below D.out.lg hb8.size)
      have B9 := Lib.hid (below_step B7.out hb9 B7.out.size)
      replace R := Lib.hid (R.out.below hb9)
      replace R1 := Lib.hid (R1.out.below hb9)
      replace R2' := Lib.hid (R2'.out.below hb9)
      clear hb8 hk9 hb9
      obtain ⟨-, f1, f2, f3, f4, f5, f6, f7⟩ := mask_facts (o := 1 + r) HOK.out (by omega) (by omega)
      have F4 := Lib.hid f4
      have F7 := Lib.hid f7
      clear f4 f7
      go_wp2_with fail
      refine (impl_MaskList_c G1 n1 d1 (maskV zs key) (1 + r) _ hl1.out hm1 R1.out).mono ?_
      rintro e w10 ⟨G3, n3, d3, rfl, hl3, hm3, ho3, hb10⟩
      have B10 := Lib.hid (below_step B9.out hb10 B9.out.size)
      replace R := Lib.hid (R.out.below hb10)
      replace R1 := Lib.hid (R1.out.below hb10)
      replace R2' := Lib.hid (R2'.out.below hb10)
      clear hb10
      have R3 := Lib.hid ho3.ri
      clear ho3
      go_wp2_with fail
      refine (impl_MaskList_c A n d zs (1 + r) _ hzl.out hzm R.out).mono ?_
      rintro e w11 ⟨G4, n4, d4, rfl, hl4, hm4, ho4, hb11⟩
      have B11 := Lib.hid (below_step B10.out hb11 B10.out.size)
      replace R := Lib.hid (R.out.below hb11)
      replace R1 := Lib.hid (R1.out.below hb11)
      replace R2' := Lib.hid (R2'.out.below hb11)
      replace R3 := Lib.hid (R3.out.below hb11)
      clear hb11
      have R4 := Lib.hid ho4.ri
      clear ho4
      go_wp2_with fail
      refine (impl_MaskList_c G4 n4 d4 (maskV zs (1 + r)) key _ hl4.out hm4 R4.out).mono ?_
      rintro e w12 ⟨G5, n5, d5, rfl, hl5, hm5, ho5, hb12⟩
      have B12 := Lib.hid (below_step B11.out hb12 B11.out.size)
      replace R := Lib.hid (R.out.below hb12)
      replace R1 := Lib.hid (R1.out.below hb12)
      replace R2' := Lib.hid (R2'.out.below hb12)
      replace R3 := Lib.hid (R3.out.below hb12)
      replace R4 := Lib.hid (R4.out.below hb12)
      clear hb12
      have R5 := Lib.hid ho5.ri
      clear ho5
      go_wp2_with fail
      refine (impl_InverseKey_c _ _).mono ?_
      rintro e w' ⟨rfl, rfl⟩
      go_wp2_with fail
      refine (impl_MaskList_c G1 n1 d1 (maskV zs key) (invV key) _ hl1.out hm1 R1.out).mono ?_
      rintro e w13 ⟨G6, n6, d6, rfl, hl6, hm6, ho6, hb13⟩
      have B13 := Lib.hid (below_step B12.out hb13 B12.out.size)
      replace R := Lib.hid (R.out.below hb13)
      replace R1 := Lib.hid (R1.out.below hb13)
      replace R2' := Lib.hid (R2'.out.below hb13)
      replace R3 := Lib.hid (R3.out.below hb13)
      replace R4 := Lib.hid (R4.out.below hb13)
      replace R5 := Lib.hid (R5.out.below hb13)
      clear hb13
      have R6 := Lib.hid ho6.ri
      clear ho6
      rw [F4.out] at hl5 R5
      rw [F7.out] at hl6 R6
      go_wp2_with fail
      refine (laws_likeInts_c G3 G5 n3 n5 d3 d5 (maskV (maskV zs key) (1 + r)) _ hl3.out hl5.out hm3 R3.out R5.out).mono ?_
      rintro e w14 ⟨rfl, hb14⟩
      have B14 := Lib.hid (below_step B13.out hb14 B13.out.size)
      replace R := Lib.hid (R.out.below hb14)
      replace R1 := Lib.hid (R1.out.below hb14)
      replace R2' := Lib.hid (R2'.out.below hb14)
      replace R3 := Lib.hid (R3.out.below hb14)
      replace R4 := Lib.hid (R4.out.below hb14)
      replace R5 := Lib.hid (R5.out.below hb14)
      replace R6 := Lib.hid (R6.out.below hb14)
      clear hb14
      go_wp2_with fail
      refine (laws_likeInts_c G6 A n6 n d6 d zs _ hl6.out hzl.out hm6 R6.out R.out).mono ?_
      rintro e w15 ⟨rfl, hb15⟩
      have B15 := Lib.hid (below_step B14.out hb15 B14.out.size)
      replace R := Lib.hid (R.out.below hb15)
      replace R1 := Lib.hid (R1.out.below hb15)
      replace R2' := Lib.hid (R2'.out.below hb15)
      replace R3 := Lib.hid (R3.out.below hb15)
      replace R4 := Lib.hid (R4.out.below hb15)
      replace R5 := Lib.hid (R5.out.below hb15)
      replace R6 := Lib.hid (R6.out.below hb15)
      clear hb15
      go_wp2_with fail
      go_ret
      exact ⟨rfl, B15.out⟩
    · have hkb := inv_prod ki0 ki1 iv0 iv1
      go_wp2_with (first | (go_at_call 20; refine (impl_IsSquare_c _ _).mono ?_; rintro e w' ⟨rfl, rfl⟩) | (go_at_call 19; refine (spec_IsSquare_c _ _).mono ?_; rintro e w' ⟨rfl, rfl⟩))
      refine (laws_roll_c a0 len0 cap0 bs _ _ HL.out hm (hr.below B7.out) (by omega) (by omega)).mono ?_
      rintro e w8 ⟨g, h, rfl, hd, hb8⟩
      have D := Lib.hid hd
      clear hd
      go_wp2_with fail
      refine (laws_below_c _ _ _ _ _ _ _ _ _ _ D.out (by omega) (by omega)).mono ?_
      rintro e w9 ⟨r, rfl, r0, r1, -, hk9⟩
      have hb9 := hb8.trans (hk9.below D.out.lg hb8.size)
      have B9 := Lib.hid (below_step B7.out hb9 B7.out.size)
      replace R := Lib.hid (R.out.below hb9)
      replace R1 := Lib.hid (R1.out.below hb9)
      replace R2' := Lib.hid (R2'.out.below hb9)
      clear hb8 hk9 hb9
      obtain ⟨-, f1, f2, f3, f4, f5, f6, f7⟩ := mask_facts (o := 1 + r) HOK.out (by omega) (by omega)
      have F4 := Lib.hid f4
      have F7 := Lib.hid f7
      clear f4 f7
      go_wp2_with fail
      refine (impl_MaskList_c G1 n1 d1 (maskV zs key) (1 + r) _ hl1.out hm1 R1.out).mono ?_
      rintro e w10 ⟨G3, n3, d3, rfl, hl3, hm3, ho3, hb10⟩
      have B10 := Lib.hid (below_step B9.out hb10 B9.out.size)
      replace R := Lib.hid (R.out.below hb10)
      replace R1 := Lib.hid (R1.out.below hb10)
      replace R2' := Lib.hid (R2'.out.below hb10)
      clear hb10
      have R3 := Lib.hid ho3.ri
      clear ho3
      go_wp2_with fail
      refine (impl_MaskList_c A n d zs (1 + r) _ hzl.out hzm R.out).mono ?_
      rintro e w11 ⟨G4, n4, d4, rfl, hl4, hm4, ho4, hb11⟩
      have B11 := Lib.hid (below_step B10.out hb11 B10.out.size)
      replace R := Lib.hid (R.out.below hb11)
      replace R1 := Lib.hid (R1.out.below hb11)
      replace R2' := Lib.hid (R2'.out.below hb11)
      replace R3 := Lib.hid (R3.out.below hb11)
      clear hb11
      have R4 := Lib.hid ho4.ri
      clear ho4
      go_wp2_with fail
      refine (impl_MaskList_c G4 n4 d4 (maskV zs (1 + r)) key _ hl4.out hm4 R4.out).mono ?_
      rintro e w12 ⟨G5, n5, d5, rfl, hl5, hm5, ho5, hb12⟩
      have B12 := Lib.hid (below_step B11.out hb12 B11.out.size)
      replace R := Lib.hid (R.out.below hb12)
      replace R1 := Lib.hid (R1.out.below hb12)
      replace R2' := Lib.hid (R2'.out.below hb12)
      replace R3 := Lib.hid (R3.out.below hb12)
      replace R4 := Lib.hid (R4.out.below hb12)
      clear hb12
      have R5 := Lib.hid ho5.ri
      clear ho5
      go_wp2_with fail
      refine (impl_InverseKey_c _ _).mono ?_
      rintro e w' ⟨rfl, rfl⟩
      go_wp2_with fail
      refine (impl_MaskList_c G1 n1 d1 (maskV zs key) (invV key) _ hl1.out hm1 R1.out).mono ?_
      rintro e w13 ⟨G6, n6, d6, rfl, hl6, hm6, ho6, hb13⟩
      have B13 := Lib.hid (below_step B12.out hb13 B12.out.size)
      replace R := Lib.hid (R.out.below hb13)
      replace R1 := Lib.hid (R1.out.below hb13)
      replace R2' := Lib.hid (R2'.out.below hb13)
      replace R3 := Lib.hid (R3.out.below hb13)
      replace R4 := Lib.hid (R4.out.below hb13)
      replace R5 := Lib.hid (R5.out.below hb13)
      clear hb13
      have R6 := Lib.hid ho6.ri
      clear ho6
      rw [F4.out] at hl5 R5
      rw [F7.out] at hl6 R6
      go_wp2_with fail
      refine (laws_likeInts_c G3 G5 n3 n5 d3 d5 (maskV (maskV zs key) (1 + r)) _ hl3.out hl5.out hm3 R3.out R5.out).mono ?_
      rintro e w14 ⟨rfl, hb14⟩
      have B14 := Lib.hid (below_step B13.out hb14 B13.out.size)
      replace R := Lib.hid (R.out.below hb14)
      replace R1 := Lib.hid (R1.out.below hb14)
      replace R2' := Lib.hid (R2'.out.below hb14)
      replace R3 := Lib.hid (R3.out.below hb14)
      replace R4 := Lib.hid (R4.out.below hb14)
      replace R5 := Lib.hid (R5.out.below hb14)
      replace R6 := Lib.hid (R6.out.below hb14)
      clear hb14
      go_wp2_with fail
      refine (laws_likeInts_c G6 A n6 n d6 d zs _ hl6.out hzl.out hm6 R6.out R.out).mono ?_
      rintro e w15 ⟨rfl, hb15⟩
      have B15 := Lib.hid (below_step B14.out hb15 B14.out.size)
      replace R := Lib.hid (R.out.below hb15)
      replace R1 := Lib.hid (R1.out.below hb15)
      replace R2' := Lib.hid (R2'.out.below hb15)
      replace R3 := Lib.hid (R3.out.below hb15)
      replace R4 := Lib.hid (R4.out.below hb15)
      replace R5 := Lib.hid (R5.out.below hb15)
      replace R6 := Lib.hid (R6.out.below hb15)
      clear hb15
      go_wp2_with fail
      go_ret
      exact ⟨rfl, B15.out⟩
  · have hv1 := mask_no hok
    clear hok
    rcases HK.out with hi | ⟨hi, ki0, ki1, iv0, iv1, hik⟩
    · go_wp2_with (first | (go_at_call 20; refine (impl_IsSquare_c _ _).mono ?_; rintro e w' ⟨rfl, rfl⟩) | (go_at_call 19; refine (spec_IsSquare_c _ _).mono ?_; rintro e w' ⟨rfl, rfl⟩))
      go_ret
      exact ⟨rfl, B7.out⟩
    · have hkb := inv_prod ki0 ki1 iv0 iv1
      go_wp2_with (first | (go_at_call 20; refine (impl_IsSquare_c _ _).mono ?_; rintro e w' ⟨rfl, rfl⟩) | (go_at_call 19; refine (spec_IsSquare_c _ _).mono ?_; rintro e w' ⟨rfl, rfl⟩))
      go_ret
      exact ⟨rfl, B7.out⟩

set_option maxRecDepth 100000 in
theorem lifted (os : Os) (started : os.Started) (H : Type) (enc : TypeId × Value → H) :
    ReturnsInHanded {} Try.checked os 15 .any (Rows.fnMasksSpec.pre6 enc Try.prog Try.f15 Rows.fnMasksRow.domain false) (Rows.fnMasksSpec.post enc Try.prog Try.f15 false true false false) := by
  refine returnsInHanded_of_change (C := Try.checked) own started (by kernel_rfl) Try.func15
    (ChangeSpec.witness6 (enc := enc) (C := Try.checked) false ⟨#[], #[.slice none 0 0], []⟩ 8 (by kernel_rfl) (by kernel_rfl) (by kernel_rfl) (by kernel_rfl)) ?_
  intro W base args ds gs before hval0 hW hcnd _
  have hval : ∀ (j : Nat) t v, Try.f15.params[j]? = some t → args[j]? = some v → Value.okWide Try.prog W .any base t v := hval0
  have hW' := hW
  obtain ⟨p, q, hA0, hV, rfl, hfz, hnd⟩ := hW
  have hA : DataW.TrodAll enc Try.prog W 0 (fun _ => true) true Try.f15.params.toList args.toList ds p := hA0
  rw [Try.params15] at hA hval
  obtain ⟨v0, vs0, d0, ds0, p0, q0, hargs, rfl, rfl, h0, r0⟩ := trodAll_cons hA
  obtain ⟨rfl, rfl, rfl⟩ := trodAll_nil r0
  obtain rfl : args = #[v0] := by cases args; simp_all
  obtain ⟨rfl, rfl⟩ := trodVars_none hV
  obtain ⟨a0, len0, cap0, rfl⟩ := okWide_slice Try.underlying43 (hval 0 43 v0 rfl rfl)
  have k0 := h0
  have lt0 : ∀ x ∈ p0, x.block < W.heap.size := by obtain ⟨m, hm⟩ := k0; exact DataW.trod_lt m _ _ _ hm
  obtain ⟨z0, w0⟩ : ∃ zs, IsRow .u8 W a0 len0 cap0 zs := by
    obtain ⟨fuel, hf⟩ := h0
    rcases open_ints Try.underlying43 Try.underlying5 (by kernel_rfl) hf with ⟨hcs, _⟩ | ⟨x, l, c, zs, hcs, _, hl, hm, hz, _, hcell, hwz⟩
    · simp [Value.cells] at hcs
      obtain ⟨rfl, rfl, rfl⟩ := hcs
      exact ⟨[], .inl ⟨rfl, rfl, rfl, rfl⟩⟩
    · simp [Value.cells] at hcs
      obtain ⟨rfl, rfl, rfl⟩ := hcs
      exact ⟨zs, .inr ⟨_, rfl, hl, hm, by simpa using hz, hcell, hwz⟩⟩
  clear hA0 hval0
  refine (walk a0 len0 cap0 z0 W w0).mono fun e W' ⟨he, bel⟩ => ?_
  subst he
  exact ⟨_, rfl, _, _, _, [], _, [], hW', trodAll_mk1 (shut_bool Try.underlying4 _), (trodAll_cons_mk (Below.trod laidOut (by kernel_rfl) (of_decide_eq_true (by kernel_rfl)) k0 bel lt0) trodAll_mk0), rfl, bel.frame _, fun h => by cases h⟩

theorem over : Rows.fnMasksRow.holds Try.pinned (OpenSpec.ofChange Rows.fnMasksSpec) :=
  OpenClaim.holds_of_wide 15 Try.f15 rfl rfl rfl rfl rfl rfl rfl ⟨rfl, rfl, rfl, rfl, rfl⟩ rfl rfl rfl rfl rfl (by kernel_rfl) Try.func15 (by kernel_rfl)
    (of_decide_eq_true (by kernel_rfl)) (by unfold Func.isWrapper; first | (rw [if_pos (by decide +kernel)]; kernel_rfl) | (rw [if_neg (by decide +kernel)]; exact ⟨rfl, rfl⟩))
    (fun os started H enc _ => lifted os started H enc)

/-- THE STATEMENT. -/
theorem proved : Rows.FnMasksSaid := over
#print axioms proved
end Go.Proofs.Ytiglekmlkklofaa.fnMasks
