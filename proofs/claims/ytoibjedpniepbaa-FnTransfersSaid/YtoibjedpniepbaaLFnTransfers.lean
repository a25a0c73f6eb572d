/-
  PROVED: 'FnTransfers' returns true for every input and leaves its arguments as they were. Conditions: none but the statement's own.
-/
import Derived.Test.YtoibjedpniepbaaFrame
import Derived.Test.YtoibjedpniepbaaArgB
import Derived.Test.YtoibjedpniepbaaTrFacts
import Derived.Test.YtoibjedpniepbaaDrawIcm
import Derived.Test.YtoibjedpniepbaaLike
import Derived.Test.YtoibjedpniepbaaLawSum
namespace Go.Proofs.Ytoibjedpniepbaa.fnTransfers
open Go.ChangeShapes Go.WideShapes Go.ChangeAt Go.RowKit
open Go.ChangeMaps (open_string shut_string)
set_option linter.unusedVariables false

set_option maxRecDepth 20000 in
set_option maxHeartbeats 4000000 in
/-- THE WALK. -/
theorem walk (a0 : Option Addr) (len0 cap0 : Nat) (z0 : List Int) (w : World) (w0 : IsRow .u8 w a0 len0 cap0 z0) :
    Calls Try.prog 13 #[.slice a0 len0 cap0] w fun e w' => e = .returned (.bool true) ∧ Below w.heap.size w w' := by
  have hr := isRow_br w0
  have hl := isRow_len w0
  clear w0
  generalize z0.take len0 = bs at hr hl
  by_cases hbig : 4096 < len0
  · have HB := decide_eq_true hbig
    clear hbig
    go_enter Try.func13, Try.ntmps13
    go_wp2_with fail
    refine (laws_big_c _ _ _ _).mono ?_
    rintro e w' ⟨rfl, rfl⟩
    go_wp2_with fail
    go_ret
    exact ⟨rfl, Below.refl _ _⟩
  have hm : len0 ≤ 1048576 := by omega
  have HB := decide_eq_false hbig
  clear hbig
  have HL := Lib.hid hl
  clear hl
  have b0 := Lib.hid (Below.refl w.heap.size w)
  go_enter Try.func13, Try.ntmps13
  go_wp2_with fail
  refine (laws_big_c _ _ _ _).mono ?_
  rintro e w' ⟨rfl, rfl⟩
  go_wp2_with fail
  refine (spec_DrawTransferChips_c a0 len0 cap0 bs _ HL.out hm (hr.below b0.out)).mono ?_
  rintro e w1 ⟨A, n, d, zs, i, j, k, rfl, hzl, hzm, hri, K1, K0, hb1⟩
  have B1 := Lib.hid (below_step b0.out hb1 b0.out.size)
  clear hb1
  have R := hri
  clear hri
  go_wp2_with fail
  refine (impl_TransferChips_c A n d zs i j k _ hzl.out hzm R.out K1 K0).mono ?_
  rintro e w2 ⟨G1, n1, d1, rfl, hl1, hm1, ho1, hb2⟩
  have B2 := Lib.hid (below_step B1.out hb2 B1.out.size)
  replace R := Lib.hid (R.out.below hb2)
  clear hb2
  have R1 := Lib.hid ho1.ri
  clear ho1
  go_wp2_with fail
  refine (spec_TransferChips_c A n d zs i j k _ hzl.out hzm R.out K1 K0).mono ?_
  rintro e w3 ⟨G2, n2, d2, rfl, hl2, hm2, ho2, hb3⟩
  have B3 := Lib.hid (below_step B2.out hb3 B2.out.size)
  replace R := Lib.hid (R.out.below hb3)
  replace R1 := Lib.hid (R1.out.below hb3)
  clear hb3
  have R2' := Lib.hid ho2.ri
  clear ho2
  go_wp2_with fail
  refine (spec_DrawRiskPremium_c a0 len0 cap0 bs _ HL.out hm (hr.below B3.out)).mono ?_
  rintro e w4 ⟨A3, n3, d3, ss, B3', m3, e3, ps, p, o, q, rfl, hD, Q1, Q0⟩
  have hb4 := hD.below
  have B4 := Lib.hid (below_step B3.out hb4 B3.out.size)
  replace R := Lib.hid (R.out.below hb4)
  replace R1 := Lib.hid (R1.out.below hb4)
  replace R2' := Lib.hid (R2'.out.below hb4)
  clear hb4
  have RS := hD.r
  have RP := hD.r'
  go_wp2_with fail
  refine (impl_RiskPremium_c A3 n3 d3 ss B3' m3 e3 ps p o q _ hD.l.out hD.n1 RS.out hD.l'.out hD.m1 RP.out hD.md Q1 Q0).mono ?_
  rintro e w5 ⟨rfl, hb5⟩
  have B5 := Lib.hid (below_step B4.out hb5 B4.out.size)
  replace R := Lib.hid (R.out.below hb5)
  replace R1 := Lib.hid (R1.out.below hb5)
  replace R2' := Lib.hid (R2'.out.below hb5)
  replace RS := Lib.hid (RS.out.below hb5)
  replace RP := Lib.hid (RP.out.below hb5)
  clear hb5
  replace R := Lib.hid (R.out.alloc (.cells #[.int .i64 (rpN ss ps p o q), .int .i64 (rpD ss ps p o q)] 31 (0, 0)))
  replace R1 := Lib.hid (R1.out.alloc (.cells #[.int .i64 (rpN ss ps p o q), .int .i64 (rpD ss ps p o q)] 31 (0, 0)))
  replace R2' := Lib.hid (R2'.out.alloc (.cells #[.int .i64 (rpN ss ps p o q), .int .i64 (rpD ss ps p o q)] 31 (0, 0)))
  replace RS := Lib.hid (RS.out.alloc (.cells #[.int .i64 (rpN ss ps p o q), .int .i64 (rpD ss ps p o q)] 31 (0, 0)))
  replace RP := Lib.hid (RP.out.alloc (.cells #[.int .i64 (rpN ss ps p o q), .int .i64 (rpD ss ps p o q)] 31 (0, 0)))
  have T1 := Lib.hid (R2.new w5 (rpN ss ps p o q) (rpD ss ps p o q))
  have C5 := Lib.hid (B5.out.alloc B5.out.size (.cells #[.int .i64 (rpN ss ps p o q), .int .i64 (rpD ss ps p o q)] 31 (0, 0)))
  go_wp2_with fail
  refine (spec_RiskPremium_c A3 n3 d3 ss B3' m3 e3 ps p o q _ hD.l.out hD.n1 RS.out hD.l'.out hD.m1 RP.out hD.md Q1 Q0).mono ?_
  rintro e w6 ⟨rfl, hb6⟩
  have B6 := Lib.hid (below_step C5.out hb6 C5.out.size)
  replace R := Lib.hid (R.out.below hb6)
  replace R1 := Lib.hid (R1.out.below hb6)
  replace R2' := Lib.hid (R2'.out.below hb6)
  replace RS := Lib.hid (RS.out.below hb6)
  replace RP := Lib.hid (RP.out.below hb6)
  replace T1 := Lib.hid (T1.out.below hb6)
  clear hb6
  replace R := Lib.hid (R.out.alloc (.cells #[.int .i64 (rpN ss ps p o q), .int .i64 (rpD ss ps p o q)] 31 (0, 0)))
  replace R1 := Lib.hid (R1.out.alloc (.cells #[.int .i64 (rpN ss ps p o q), .int .i64 (rpD ss ps p o q)] 31 (0, 0)))
  replace R2' := Lib.hid (R2'.out.alloc (.cells #[.int .i64 (rpN ss ps p o q), .int .i64 (rpD ss ps p o q)] 31 (0, 0)))
  replace RS := Lib.hid (RS.out.alloc (.cells #[.int .i64 (rpN ss ps p o q), .int .i64 (rpD ss ps p o q)] 31 (0, 0)))
  replace RP := Lib.hid (RP.out.alloc (.cells #[.int .i64 (rpN ss ps p o q), .int .i64 (rpD ss ps p o q)] 31 (0, 0)))
  replace T1 := Lib.hid (T1.out.alloc (.cells #[.int .i64 (rpN ss ps p o q), .int .i64 (rpD ss ps p o q)] 31 (0, 0)))
  have T2 := Lib.hid (R2.new w6 (rpN ss ps p o q) (rpD ss ps p o q))
  have C6 := Lib.hid (B6.out.alloc B6.out.size (.cells #[.int .i64 (rpN ss ps p o q), .int .i64 (rpD ss ps p o q)] 31 (0, 0)))
  obtain ⟨T1a, T1b, -, -⟩ := T1.out.cells
  have T1z := T1.out.lt
  obtain ⟨T2a, T2b, -, -⟩ := T2.out.cells
  have T2z := T2.out.lt
  go_wp2_with fail
  refine (laws_likeInts_c G1 G2 n1 n2 d1 d2 (trV zs i j k) _ hl1.out hl2.out hm1 R1.out R2'.out).mono ?_
  rintro e w7 ⟨rfl, hb7⟩
  have B7 := Lib.hid (below_step C6.out hb7 C6.out.size)
  replace R := Lib.hid (R.out.below hb7)
  replace R1 := Lib.hid (R1.out.below hb7)
  replace R2' := Lib.hid (R2'.out.below hb7)
  replace RS := Lib.hid (RS.out.below hb7)
  replace RP := Lib.hid (RP.out.below hb7)
  replace T1 := Lib.hid (T1.out.below hb7)
  replace T2 := Lib.hid (T2.out.below hb7)
  clear hb7
  clear T1a T1b T1z T2a T2b T2z
  have HZ : Hid (rpE ss ps p o q = 0 → q = 0 → rpN ss ps p o q = 0) := Lib.hid (fun h1 h2 => by subst h2; exact rp_zero h1)
  obtain ⟨T1a, T1b, -, -⟩ := T1.out.cells
  have T1z := T1.out.lt
  obtain ⟨T2a, T2b, -, -⟩ := T2.out.cells
  have T2z := T2.out.lt
  by_cases hE : trE zs i j k = 0
  · obtain ⟨hF, hC⟩ : fieldB zs = true ∧ trC zs i j k = 0 := by
      unfold trE at hE
      by_cases hF : fieldB zs = true
      · rw [if_pos hF] at hE; exact ⟨hF, hE⟩
      · rw [if_neg hF] at hE; exact absurd hE (by decide)
    obtain ⟨t1, t2, t3, t4⟩ := tr_back hF hC
    have HV := Lib.hid (tr_v hF hC)
    rw [HV.out] at hl1 R1
    have HT1 := Lib.hid (show trE (trL zs i j k) j i k = 0 by rw [tr_e t4, t1])
    have HT2 := Lib.hid (show trV (trL zs i j k) j i k = zs by rw [tr_v t4 t1, t2])
    have HT3 := Lib.hid t3
    have HT4 := Lib.hid t4
    have hb1 := Lib.hid (fun x (hx : x ∈ zs) => (fieldB_iff.1 hF).2.2 x hx)
    have hb2 := Lib.hid (fun x (hx : x ∈ trL zs i j k) => (fieldB_iff.1 t4).2.2 x hx)
    have SZ : Hid (∀ x ∈ zs, -4000000000 ≤ x ∧ x ≤ 4000000000) := Lib.hid (fun x hx => by have := hb1.out x hx; omega)
    have SY : Hid (∀ x ∈ trL zs i j k, -4000000000 ≤ x ∧ x ≤ 4000000000) := Lib.hid (fun x hx => by have := hb2.out x hx; omega)
    have HE := Lib.hid hE
    clear t1 t2 t3 t4 hF hC hE
    rw [HE.out]
    by_cases z1 : rpE ss ps p o q = 0
    · by_cases z2 : q = 0
      · have z3 := HZ.out z1 z2
        subst z2
        go_wp2_with fail
        refine (impl_TransferChips_c G1 n1 d1 (trL zs i j k) j i k _ hl1.out hm1 R1.out K1 K0).mono ?_
        rintro e w8 ⟨G3, n3', d3', rfl, hl3, hm3, ho3, hb8⟩
        rw [HT2.out] at hl3 ho3
        rw [HT1.out]
        have B8 := Lib.hid (below_step B7.out hb8 B7.out.size)
        have R3 := Lib.hid ho3.ri
        have RR1 := Lib.hid (R1.out.below hb8)
        have RR0 := Lib.hid (R.out.below hb8)
        clear ho3 hb8 T1a T1b T1z T2a T2b T2z
        go_wp2_with fail
        refine (laws_likeInts_c G3 A n3' n d3' d zs _ hl3.out hzl.out hm3 R3.out RR0.out).mono ?_
        rintro e w9 ⟨rfl, hb9⟩
        have B9 := Lib.hid (below_step B8.out hb9 B8.out.size)
        have RQ1 := Lib.hid (RR1.out.below hb9)
        have RQ0 := Lib.hid (RR0.out.below hb9)
        clear hb9
        go_wp2_with (first
          | (go_at_call 47; first | ((with_reducible refine (laws_sum_c _ _ _ (trL zs i j k) _ hl1.out hm1 RQ1.out SY).mono ?_); rintro e w' ⟨rfl, rfl⟩; rw [HT3.out]) | ((with_reducible refine (laws_sum_c _ _ _ zs _ hzl.out hzm RQ0.out SZ).mono ?_); rintro e w' ⟨rfl, rfl⟩))
          | (go_at_call 17; refine (impl_IsField_c _ _ _ (trL zs i j k) _ hl1.out hm1 RQ1.out).mono ?_; rintro e w' ⟨rfl, rfl⟩; rw [HT4.out]))
        go_ret
        exact ⟨rfl, B9.out⟩
      · have z4 : (q == 0) = false := by simp [z2]
        go_wp2_with fail
        refine (impl_TransferChips_c G1 n1 d1 (trL zs i j k) j i k _ hl1.out hm1 R1.out K1 K0).mono ?_
        rintro e w8 ⟨G3, n3', d3', rfl, hl3, hm3, ho3, hb8⟩
        rw [HT2.out] at hl3 ho3
        rw [HT1.out]
        have B8 := Lib.hid (below_step B7.out hb8 B7.out.size)
        have R3 := Lib.hid ho3.ri
        have RR1 := Lib.hid (R1.out.below hb8)
        have RR0 := Lib.hid (R.out.below hb8)
        clear ho3 hb8 T1a T1b T1z T2a T2b T2z
        go_wp2_with fail
        refine (laws_likeInts_c G3 A n3' n d3' d zs _ hl3.out hzl.out hm3 R3.out RR0.out).mono ?_
        rintro e w9 ⟨rfl, hb9⟩
        have B9 := Lib.hid (below_step B8.out hb9 B8.out.size)
        have RQ1 := Lib.hid (RR1.out.below hb9)
        have RQ0 := Lib.hid (RR0.out.below hb9)
        clear hb9
        go_wp2_with (first
          | (go_at_call 47; first | ((with_reducible refine (laws_sum_c _ _ _ (trL zs i j k) _ hl1.out hm1 RQ1.out SY).mono ?_); rintro e w' ⟨rfl, rfl⟩; rw [HT3.out]) | ((with_reducible refine (laws_sum_c _ _ _ zs _ hzl.out hzm RQ0.out SZ).mono ?_); rintro e w' ⟨rfl, rfl⟩))
          | (go_at_call 17; refine (impl_IsField_c _ _ _ (trL zs i j k) _ hl1.out hm1 RQ1.out).mono ?_; rintro e w' ⟨rfl, rfl⟩; rw [HT4.out]))
        go_ret
        exact ⟨rfl, B9.out⟩
    · have z4 : (rpE ss ps p o q == 0) = false := by simp [z1]
      go_wp2_with fail
      refine (impl_TransferChips_c G1 n1 d1 (trL zs i j k) j i k _ hl1.out hm1 R1.out K1 K0).mono ?_
      rintro e w8 ⟨G3, n3', d3', rfl, hl3, hm3, ho3, hb8⟩
      rw [HT2.out] at hl3 ho3
      rw [HT1.out]
      have B8 := Lib.hid (below_step B7.out hb8 B7.out.size)
      have R3 := Lib.hid ho3.ri
      have RR1 := Lib.hid (R1.out.below hb8)
      have RR0 := Lib.hid (R.out.below hb8)
      clear ho3 hb8 T1a T1b T1z T2a T2b T2z
      go_wp2_with fail
      refine (laws_likeInts_c G3 A n3' n d3' d zs _ hl3.out hzl.out hm3 R3.out RR0.out).mono ?_
      rintro e w9 ⟨rfl, hb9⟩
      have B9 := Lib.hid (below_step B8.out hb9 B8.out.size)
      have RQ1 := Lib.hid (RR1.out.below hb9)
      have RQ0 := Lib.hid (RR0.out.below hb9)
      clear hb9
      go_wp2_with (first
        | (go_at_call 47; first | ((with_reducible refine (laws_sum_c _ _ _ (trL zs i j k) _ hl1.out hm1 RQ1.out SY).mono ?_); rintro e w' ⟨rfl, rfl⟩; rw [HT3.out]) | ((with_reducible refine (laws_sum_c _ _ _ zs _ hzl.out hzm RQ0.out SZ).mono ?_); rintro e w' ⟨rfl, rfl⟩))
        | (go_at_call 17; refine (impl_IsField_c _ _ _ (trL zs i j k) _ hl1.out hm1 RQ1.out).mono ?_; rintro e w' ⟨rfl, rfl⟩; rw [HT4.out]))
      go_ret
      exact ⟨rfl, B9.out⟩
  · have hB : (trE zs i j k == 0) = false := by simp [hE]
    have hB' : (trE zs i j k != 0) = true := by simp [hE]
    obtain ⟨E, hEE⟩ : ∃ E, trE zs i j k = E := ⟨_, rfl⟩
    rw [hEE] at hE hB hB'
    rw [hEE]
    clear hEE
    by_cases z1 : rpE ss ps p o q = 0
    · by_cases z2 : q = 0
      · have z3 := HZ.out z1 z2
        subst z2
        go_wp2_with fail
        go_ret
        exact ⟨rfl, B7.out⟩
      · have z4 : (q == 0) = false := by simp [z2]
        go_wp2_with fail
        go_ret
        exact ⟨rfl, B7.out⟩
    · have z4 : (rpE ss ps p o q == 0) = false := by simp [z1]
      go_wp2_with fail
      go_ret
      exact ⟨rfl, B7.out⟩

set_option maxRecDepth 100000 in
theorem lifted (os : Os) (started : os.Started) (H : Type) (enc : TypeId × Value → H) :
    ReturnsInHanded {} Try.checked os 13 .any (Rows.fnTransfersSpec.pre6 enc Try.prog Try.f13 Rows.fnTransfersRow.domain false) (Rows.fnTransfersSpec.post enc Try.prog Try.f13 false true false false) := by
  refine returnsInHanded_of_change (C := Try.checked) own started (by kernel_rfl) Try.func13
    (ChangeSpec.witness6 (enc := enc) (C := Try.checked) false ⟨#[], #[.slice none 0 0], []⟩ 8 (by kernel_rfl) (by kernel_rfl) (by kernel_rfl) (by kernel_rfl)) ?_
  intro W base args ds gs before hval0 hW hcnd _
  have hval : ∀ (j : Nat) t v, Try.f13.params[j]? = some t → args[j]? = some v → Value.okWide Try.prog W .any base t v := hval0
  have hW' := hW
  obtain ⟨p, q, hA0, hV, rfl, hfz, hnd⟩ := hW
  have hA : DataW.TrodAll enc Try.prog W 0 (fun _ => true) true Try.f13.params.toList args.toList ds p := hA0
  rw [Try.params13] at hA hval
  obtain ⟨v0, vs0, d0, ds0, p0, q0, hargs, rfl, rfl, h0, r0⟩ := trodAll_cons hA
  obtain ⟨rfl, rfl, rfl⟩ := trodAll_nil r0
  obtain rfl : args = #[v0] := by cases args; simp_all
  obtain ⟨rfl, rfl⟩ := trodVars_none hV
  obtain ⟨a0, len0, cap0, rfl⟩ := okWide_slice Try.underlying45 (hval 0 45 v0 rfl rfl)
  have k0 := h0
  have lt0 : ∀ x ∈ p0, x.block < W.heap.size := by obtain ⟨m, hm⟩ := k0; exact DataW.trod_lt m _ _ _ hm
  obtain ⟨z0, w0⟩ : ∃ zs, IsRow .u8 W a0 len0 cap0 zs := by
    obtain ⟨fuel, hf⟩ := h0
    rcases open_ints Try.underlying45 Try.underlying5 (by kernel_rfl) hf with ⟨hcs, _⟩ | ⟨x, l, c, zs, hcs, _, hl, hm, hz, _, hcell, hwz⟩
    · simp [Value.cells] at hcs
      obtain ⟨rfl, rfl, rfl⟩ := hcs
      exact ⟨[], .inl ⟨rfl, rfl, rfl, rfl⟩⟩
    · simp [Value.cells] at hcs
      obtain ⟨rfl, rfl, rfl⟩ := hcs
      exact ⟨zs, .inr ⟨_, rfl, hl, hm, by simpa using hz, hcell, hwz⟩⟩
  clear hA0 hval0
  refine (walk a0 len0 cap0 z0 W w0).mono fun e W' ⟨he, bel⟩ => ?_
  subst he
  exact ⟨_, rfl, _, _, _, [], _, [], hW', trodAll_mk1 (shut_bool Try.underlying4 _), (trodAll_cons_mk (Below.trod laidOut (by kernel_rfl) (of_decide_eq_true (by kernel_rfl)) k0 bel lt0) trodAll_mk0), rfl, bel.frame _, fun h => by cases h⟩

theorem over : Rows.fnTransfersRow.holds Try.pinned (OpenSpec.ofChange Rows.fnTransfersSpec) :=
  OpenClaim.holds_of_wide 13 Try.f13 rfl rfl rfl rfl rfl rfl rfl ⟨rfl, rfl, rfl, rfl, rfl⟩ rfl rfl rfl rfl rfl (by kernel_rfl) Try.func13 (by kernel_rfl)
    (of_decide_eq_true (by kernel_rfl)) (by unfold Func.isWrapper; first | (rw [if_pos (by decide +kernel)]; kernel_rfl) | (rw [if_neg (by decide +kernel)]; exact ⟨rfl, rfl⟩))
    (fun os started H enc _ => lifted os started H enc)

/-- THE STATEMENT. -/
theorem proved : Rows.FnTransfersSaid := over
#print axioms proved
end Go.Proofs.Ytoibjedpniepbaa.fnTransfers
