/-
  PROVED: 'FnPasses' returns true for every input and leaves its arguments as they were. Conditions: none but the statement's own.
-/
import Derived.Test.YthpgkngkmmameaaFrame
import Derived.Test.YthpgkngkmmameaaPassFacts
import Derived.Test.YthpgkngkmmameaaDrawAudit
import Derived.Test.YthpgkngkmmameaaDice
import Derived.Test.YthpgkngkmmameaaLike
namespace Go.Proofs.Ythpgkngkmmameaa.fnPasses
open Go.ChangeShapes Go.WideShapes Go.ChangeAt Go.RowKit
open Go.ChangeMaps (open_string shut_string)
set_option linter.unusedVariables false

set_option maxRecDepth 20000 in
set_option maxHeartbeats 20000000 in
/-- THE WALK. -/
theorem walk (a0 : Option Addr) (len0 cap0 : Nat) (z0 : List Int) (w : World) (w0 : IsRow .u8 w a0 len0 cap0 z0) :
    Calls Try.prog 12 #[.slice a0 len0 cap0] w fun e w' => e = .returned (.bool true) ∧ Below w.heap.size w w' := by
  have hr := isRow_br w0
  have hl := isRow_len w0
  clear w0
  generalize z0.take len0 = bs at hr hl
  by_cases hbig : 4096 < len0
  · have HB := decide_eq_true hbig
    clear hbig
    go_enter Try.func12, Try.ntmps12
    go_wp2_with fail
    refine (laws_big_c _ _ _ _).mono ?_
    rintro e w' ⟨rfl, rfl⟩
    go_wp2_with fail
    go_ret
    exact ⟨rfl, Below.refl _ _⟩
  have hm : len0 ≤ 1048576 := by omega
  have HB := decide_eq_false hbig
  clear hbig
  have HL := Lib.hid hl
  clear hl
  have b0 := Lib.hid (Below.refl w.heap.size w)
  go_enter Try.func12, Try.ntmps12
  go_wp2_with fail
  refine (laws_big_c _ _ _ _).mono ?_
  rintro e w' ⟨rfl, rfl⟩
  go_wp2_with fail
  refine (spec_DrawFirstPass_c a0 len0 cap0 bs _ HL.out hm (hr.below b0.out)).mono ?_
  rintro e w1 ⟨key, A, n, d, ps, rfl, key0, key1, hpl, hpm, hri, hb1⟩
  have B1 := Lib.hid (below_step b0.out hb1 b0.out.size)
  clear hb1
  have R := Lib.hid hri
  clear hri
  go_wp2_with fail
  refine (impl_FirstPass_c key A n d ps _ hpl.out (by omega) R.out).mono ?_
  rintro e w2 ⟨G1, n1, d1, rfl, hl1, hm1, ho1, hb2⟩
  have B2 := Lib.hid (below_step B1.out hb2 B1.out.size)
  replace R := Lib.hid (R.out.below hb2)
  clear hb2
  have R1 := Lib.hid ho1.ri
  clear ho1
  go_wp2_with fail
  refine (spec_FirstPass_c key A n d ps _ hpl.out (by omega) R.out).mono ?_
  rintro e w3 ⟨G2, n2, d2, rfl, hl2, hm2, ho2, hb3⟩
  have B3 := Lib.hid (below_step B2.out hb3 B2.out.size)
  replace R := Lib.hid (R.out.below hb3)
  replace R1 := Lib.hid (R1.out.below hb3)
  clear hb3
  have R2' := Lib.hid ho2.ri
  clear ho2
  go_wp2_with fail
  refine (spec_DrawSecondPass_c a0 len0 cap0 bs _ HL.out hm (hr.below B3.out)).mono ?_
  rintro e w4 ⟨C, l, f, ys, k2, B, m, d2', zs, rfl, hyl, hym, hyr, k20, k21, hzl, hzm, hzr, hb4⟩
  have B4 := Lib.hid (below_step B3.out hb4 B3.out.size)
  replace R := Lib.hid (R.out.below hb4)
  replace R1 := Lib.hid (R1.out.below hb4)
  replace R2' := Lib.hid (R2'.out.below hb4)
  clear hb4
  have RY := Lib.hid hyr
  have RZ := Lib.hid hzr
  clear hyr hzr
  go_wp2_with fail
  refine (impl_SecondPass_c C l f ys k2 B m d2' zs _ hyl.out hym RY.out hzl.out (by omega) RZ.out).mono ?_
  rintro e w5 ⟨G3, n3, d3, rfl, hl3, hm3, ho3, hb5⟩
  have B5 := Lib.hid (below_step B4.out hb5 B4.out.size)
  replace R := Lib.hid (R.out.below hb5)
  replace R1 := Lib.hid (R1.out.below hb5)
  replace R2' := Lib.hid (R2'.out.below hb5)
  replace RY := Lib.hid (RY.out.below hb5)
  replace RZ := Lib.hid (RZ.out.below hb5)
  clear hb5
  have R3 := Lib.hid ho3.ri
  clear ho3
  go_wp2_with fail
  refine (spec_SecondPass_c C l f ys k2 B m d2' zs _ hyl.out hym RY.out hzl.out (by omega) RZ.out).mono ?_
  rintro e w6 ⟨G4, n4, d4, rfl, hl4, hm4, ho4, hb6⟩
  have B6 := Lib.hid (below_step B5.out hb6 B5.out.size)
  replace R := Lib.hid (R.out.below hb6)
  replace R1 := Lib.hid (R1.out.below hb6)
  replace R2' := Lib.hid (R2'.out.below hb6)
  replace RY := Lib.hid (RY.out.below hb6)
  replace RZ := Lib.hid (RZ.out.below hb6)
  replace R3 := Lib.hid (R3.out.below hb6)
  clear hb6
  have R4 := Lib.hid ho4.ri
  clear ho4
  go_wp2_with fail
  refine (spec_DrawAuditDeal_c a0 len0 cap0 bs _ HL.out hm (hr.below B6.out)).mono ?_
  rintro e w7 ⟨a, A', n', c', ps', b, B', m', d', qs, C', l', f', zs', rfl, hx1, hy1, hz1, hx2, hy2, hz2, hx3, hy3, hz3, hb7⟩
  have B7 := Lib.hid (below_step B6.out hb7 B6.out.size)
  replace R := Lib.hid (R.out.below hb7)
  replace R1 := Lib.hid (R1.out.below hb7)
  replace R2' := Lib.hid (R2'.out.below hb7)
  replace RY := Lib.hid (RY.out.below hb7)
  replace RZ := Lib.hid (RZ.out.below hb7)
  replace R3 := Lib.hid (R3.out.below hb7)
  replace R4 := Lib.hid (R4.out.below hb7)
  clear hb7
  have RP := Lib.hid hz1
  have RQ := Lib.hid hz2
  have RW := Lib.hid hz3
  clear hz1 hz2 hz3
  go_wp2_with fail
  refine (impl_AuditDeal_c a A' n' c' ps' b B' m' d' qs C' l' f' zs' _ hx1.out (by omega) RP.out hx2.out (by omega) RQ.out hx3.out (by omega) RW.out).mono ?_
  rintro e w8 ⟨rfl, hb8⟩
  have B8 := Lib.hid (below_step B7.out hb8 B7.out.size)
  replace R := Lib.hid (R.out.below hb8)
  replace R1 := Lib.hid (R1.out.below hb8)
  replace R2' := Lib.hid (R2'.out.below hb8)
  replace RY := Lib.hid (RY.out.below hb8)
  replace RZ := Lib.hid (RZ.out.below hb8)
  replace R3 := Lib.hid (R3.out.below hb8)
  replace R4 := Lib.hid (R4.out.below hb8)
  replace RP := Lib.hid (RP.out.below hb8)
  replace RQ := Lib.hid (RQ.out.below hb8)
  replace RW := Lib.hid (RW.out.below hb8)
  clear hb8
  go_wp2_with fail
  refine (spec_AuditDeal_c a A' n' c' ps' b B' m' d' qs C' l' f' zs' _ hx1.out (by omega) RP.out hx2.out (by omega) RQ.out hx3.out (by omega) RW.out).mono ?_
  rintro e w9 ⟨rfl, hb9⟩
  have B9 := Lib.hid (below_step B8.out hb9 B8.out.size)
  replace R := Lib.hid (R.out.below hb9)
  replace R1 := Lib.hid (R1.out.below hb9)
  replace R2' := Lib.hid (R2'.out.below hb9)
  replace RY := Lib.hid (RY.out.below hb9)
  replace RZ := Lib.hid (RZ.out.below hb9)
  replace R3 := Lib.hid (R3.out.below hb9)
  replace R4 := Lib.hid (R4.out.below hb9)
  replace RP := Lib.hid (RP.out.below hb9)
  replace RQ := Lib.hid (RQ.out.below hb9)
  replace RW := Lib.hid (RW.out.below hb9)
  clear hb9
  go_wp2_with fail
  refine (laws_likeInts_c G1 G2 n1 n2 d1 d2 (firstV key ps) _ hl1.out hl2.out hm1 R1.out R2'.out).mono ?_
  rintro e w10 ⟨rfl, hb10⟩
  have B10 := Lib.hid (below_step B9.out hb10 B9.out.size)
  replace R := Lib.hid (R.out.below hb10)
  replace R1 := Lib.hid (R1.out.below hb10)
  replace R2' := Lib.hid (R2'.out.below hb10)
  replace RY := Lib.hid (RY.out.below hb10)
  replace RZ := Lib.hid (RZ.out.below hb10)
  replace R3 := Lib.hid (R3.out.below hb10)
  replace R4 := Lib.hid (R4.out.below hb10)
  replace RP := Lib.hid (RP.out.below hb10)
  replace RQ := Lib.hid (RQ.out.below hb10)
  replace RW := Lib.hid (RW.out.below hb10)
  clear hb10
  go_wp2_with fail
  refine (laws_likeInts_c G3 G4 n3 n4 d3 d4 (secV ys k2 zs) _ hl3.out hl4.out hm3 R3.out R4.out).mono ?_
  rintro e w11 ⟨rfl, hb11⟩
  have B11 := Lib.hid (below_step B10.out hb11 B10.out.size)
  replace R := Lib.hid (R.out.below hb11)
  replace R1 := Lib.hid (R1.out.below hb11)
  replace R2' := Lib.hid (R2'.out.below hb11)
  replace RY := Lib.hid (RY.out.below hb11)
  replace RZ := Lib.hid (RZ.out.below hb11)
  replace R3 := Lib.hid (R3.out.below hb11)
  replace R4 := Lib.hid (R4.out.below hb11)
  replace RP := Lib.hid (RP.out.below hb11)
  replace RQ := Lib.hid (RQ.out.below hb11)
  replace RW := Lib.hid (RW.out.below hb11)
  clear hb11
  obtain ⟨E, hE⟩ : ∃ E, firstE key ps = E := ⟨_, rfl⟩
  have HE := Lib.hid hE
  rw [hE]
  clear hE
  by_cases z0 : E = 0
  · subst z0
    go_wp2_with fail
    refine (laws_roll_c a0 len0 cap0 bs _ _ HL.out hm (hr.below B11.out) (by omega) (by omega)).mono ?_
    rintro e w12 ⟨g, h, rfl, hd, hb12⟩
    have D := Lib.hid hd
    clear hd
    go_wp2_with fail
    refine (laws_below_c _ _ _ _ _ _ _ _ _ _ D.out (by omega) (by omega)).mono ?_
    rintro e w13 ⟨r, rfl, r0, r1, -, hk13⟩
    have hb13 := hb12.trans (hk13.below D.out.lg hb12.size)
    have B13 := Lib.hid (below_step B11.out hb13 B11.out.size)
    replace R := Lib.hid (R.out.below hb13)
    replace R1 := Lib.hid (R1.out.below hb13)
    clear hb12 hk13 hb13
    go_wp2_with fail
    refine (impl_ShuffledDeck_c _ _ (by omega) (by omega)).mono ?_
    rintro e w14 ⟨GD, cD, dk, rfl, hdk, hod, hb14⟩
    have B14 := Lib.hid (below_step B13.out hb14 B13.out.size)
    replace R := Lib.hid (R.out.below hb14)
    replace R1 := Lib.hid (R1.out.below hb14)
    clear hb14
    have RD := Lib.hid hod.ri
    clear hod
    obtain ⟨f1, f2, f3, f4, f5, f6⟩ := pass_facts (o := 1 + r) HE.out (by omega) (by omega) hdk.out
    have LD := Lib.hid (deck_iff.1 hdk.out).1
    have LP := Lib.hid f5
    have L5 := Lib.hid f4
    clear f4 f5
    go_wp2_with fail
    refine (impl_SecondPass_c G1 n1 d1 (firstV key ps) (1 + r) GD 52 cD dk _ hl1.out hm1 R1.out LD.out (by omega) RD.out).mono ?_
    rintro e w15 ⟨G5, n5, d5, rfl, hl5, hm5, ho5, hb15⟩
    have B15 := Lib.hid (below_step B14.out hb15 B14.out.size)
    replace R := Lib.hid (R.out.below hb15)
    replace R1 := Lib.hid (R1.out.below hb15)
    replace RD := Lib.hid (RD.out.below hb15)
    clear hb15
    have R5 := Lib.hid ho5.ri
    clear ho5
    go_wp2_with fail
    refine (impl_AuditDeal_c key A n d ps (1 + r) GD 52 cD dk G5 n5 d5 (secV (firstV key ps) (1 + r) dk) _ hpl.out (by omega) R.out LD.out (by omega) RD.out hl5.out hm5 R5.out).mono ?_
    rintro e w16 ⟨rfl, hb16⟩
    have B16 := Lib.hid (below_step B15.out hb16 B15.out.size)
    replace R := Lib.hid (R.out.below hb16)
    replace R1 := Lib.hid (R1.out.below hb16)
    replace RD := Lib.hid (RD.out.below hb16)
    replace R5 := Lib.hid (R5.out.below hb16)
    clear hb16
    rw [f2, f3]
    obtain rfl : n5 = 52 := by have := hl5.out; have := L5.out; omega
    obtain rfl : n = 52 := by have := hpl.out; have := LP.out; omega
    obtain ⟨V, hV⟩ : ∃ V, secV (firstV key ps) (1 + r) dk = V := ⟨_, rfl⟩
    rw [hV] at R5 L5 f6
    clear f1 f2 f3 hV hl5
    go_wp2_with fail
    go_loop [32] (fun i => ∃ j : Nat, i = .int .i64 j ∧ j ≤ 52) (fun i => 52 - (intOf i).toNat)
    case atStart => exact ⟨0, rfl, Nat.zero_le _⟩
    case round =>
      obtain ⟨j, rfl, hj⟩ := hrel
      by_cases hlt : j < 52
      · obtain ⟨x, hx⟩ := get_some (zs := V) (k := j) (by have := L5.out; omega)
        obtain ⟨q, hq⟩ := get_some (zs := dk) (k := j) (by have := LD.out; omega)
        obtain ⟨q0, q1, y, hy, e1, e2⟩ := f6.out j x q hx hq
        rcases R5.out.split with h0 | ⟨s1, o1, rfl, hs1, hc1⟩
        · exfalso; have := L5.out; omega
        rcases RD.out.split with h0 | ⟨s2, o2, rfl, hs2, hc2⟩
        · exfalso; have := LD.out; omega
        rcases R.out.split with h0 | ⟨s3, o3, rfl, hs3, hc3⟩
        · exfalso; have := LP.out; omega
        have hcx := hc1.out j x hx
        have hcq := hc2.out j q hq
        have hcy := hc3.out q.toNat y hy
        have i1 : (j : Int) < 52 := by omega
        have i2 : (0 : Int) ≤ (j : Int) := by omega
        clear hx hq hy
        go_wp2_with fail
        refine (impl_OpenElement_c _ _ _ _).mono ?_
        rintro e w' ⟨rfl, rfl⟩
        rw [e1, e2]
        go_wp2_with fail
        go_round
        case rel => exact ⟨j + 1, by go_num, by omega⟩
        case measure => simp [intOf]; omega
      · have i1 : ¬ (j : Int) < 52 := by omega
        go_wp2_with fail
        go_ret
        exact ⟨rfl, B16.out⟩
  · have z1 : (E == 0) = false := by simp [z0]
    have z2 : (E != 0) = true := by simp [z0]
    go_wp2_with fail
    go_ret
    exact ⟨rfl, B11.out⟩

set_option maxRecDepth 100000 in
theorem lifted (os : Os) (started : os.Started) (H : Type) (enc : TypeId × Value → H) :
    ReturnsInHanded {} Try.checked os 12 .any (Rows.fnPassesSpec.pre6 enc Try.prog Try.f12 Rows.fnPassesRow.domain false) (Rows.fnPassesSpec.post enc Try.prog Try.f12 false true false false) := by
  refine returnsInHanded_of_change (C := Try.checked) own started (by kernel_rfl) Try.func12
    (ChangeSpec.witness6 (enc := enc) (C := Try.checked) false ⟨#[], #[.slice none 0 0], []⟩ 8 (by kernel_rfl) (by kernel_rfl) (by kernel_rfl) (by kernel_rfl)) ?_
  intro W base args ds gs before hval0 hW hcnd _
  have hval : ∀ (j : Nat) t v, Try.f12.params[j]? = some t → args[j]? = some v → Value.okWide Try.prog W .any base t v := hval0
  have hW' := hW
  obtain ⟨p, q, hA0, hV, rfl, hfz, hnd⟩ := hW
  have hA : DataW.TrodAll enc Try.prog W 0 (fun _ => true) true Try.f12.params.toList args.toList ds p := hA0
  rw [Try.params12] at hA hval
  obtain ⟨v0, vs0, d0, ds0, p0, q0, hargs, rfl, rfl, h0, r0⟩ := trodAll_cons hA
  obtain ⟨rfl, rfl, rfl⟩ := trodAll_nil r0
  obtain rfl : args = #[v0] := by cases args; simp_all
  obtain ⟨rfl, rfl⟩ := trodVars_none hV
  obtain ⟨a0, len0, cap0, rfl⟩ := okWide_slice Try.underlying31 (hval 0 31 v0 rfl rfl)
  have k0 := h0
  have lt0 : ∀ x ∈ p0, x.block < W.heap.size := by obtain ⟨m, hm⟩ := k0; exact DataW.trod_lt m _ _ _ hm
  obtain ⟨z0, w0⟩ : ∃ zs, IsRow .u8 W a0 len0 cap0 zs := by
    obtain ⟨fuel, hf⟩ := h0
    rcases open_ints Try.underlying31 Try.underlying5 (by kernel_rfl) hf with ⟨hcs, _⟩ | ⟨x, l, c, zs, hcs, _, hl, hm, hz, _, hcell, hwz⟩
    · simp [Value.cells] at hcs
      obtain ⟨rfl, rfl, rfl⟩ := hcs
      exact ⟨[], .inl ⟨rfl, rfl, rfl, rfl⟩⟩
    · simp [Value.cells] at hcs
      obtain ⟨rfl, rfl, rfl⟩ := hcs
      exact ⟨zs, .inr ⟨_, rfl, hl, hm, by simpa using hz, hcell, hwz⟩⟩
  clear hA0 hval0
  refine (walk a0 len0 cap0 z0 W w0).mono fun e W' ⟨he, bel⟩ => ?_
  subst he
  exact ⟨_, rfl, _, _, _, [], _, [], hW', trodAll_mk1 (shut_bool Try.underlying4 _), (trodAll_cons_mk (Below.trod laidOut (by kernel_rfl) (of_decide_eq_true (by kernel_rfl)) k0 bel lt0) trodAll_mk0), rfl, bel.frame _, fun h => by cases h⟩

theorem over : Rows.fnPassesRow.holds Try.pinned (OpenSpec.ofChange Rows.fnPassesSpec) :=
  OpenClaim.holds_of_wide 12 Try.f12 rfl rfl rfl rfl rfl rfl rfl ⟨rfl, rfl, rfl, rfl, rfl⟩ rfl rfl rfl rfl rfl (by kernel_rfl) Try.func12 (by kernel_rfl)
    (of_decide_eq_true (by kernel_rfl)) (by unfold Func.isWrapper; first | (rw [if_pos (by decide +kernel)]; kernel_rfl) | (rw [if_neg (by decide +kernel)]; exact ⟨rfl, rfl⟩))
    (fun os started H enc _ => lifted os started H enc)

/-- THE STATEMENT. -/
theorem proved : Rows.FnPassesSaid := over
#print axioms proved
end Go.Proofs.Ythpgkngkmmameaa.fnPasses
