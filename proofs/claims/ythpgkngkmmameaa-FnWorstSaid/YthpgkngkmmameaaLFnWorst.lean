/-
  PROVED: 'FnWorst' returns true for every input and leaves its arguments as they were. Conditions: none but the statement's own.
-/
import Derived.Test.YthpgkngkmmameaaFrame
import Derived.Test.YthpgkngkmmameaaArgB
import Derived.Test.YthpgkngkmmameaaMrgFnChops
import Derived.Test.YthpgkngkmmameaaAccept
import Derived.Test.YthpgkngkmmameaaWorstSpec
import Derived.Test.YthpgkngkmmameaaIcmTop
import Derived.Test.YthpgkngkmmameaaCompare
namespace Go.Proofs.Ythpgkngkmmameaa.fnWorst
open Go.ChangeShapes Go.WideShapes Go.ChangeAt Go.RowKit
open Go.ChangeMaps (open_string shut_string)
set_option linter.unusedVariables false

set_option maxRecDepth 20000 in
set_option maxHeartbeats 20000000 in
/-- THE WALK. -/
theorem walk (a0 : Option Addr) (len0 cap0 : Nat) (z0 : List Int) (w : World) (w0 : IsRow .u8 w a0 len0 cap0 z0) :
    Calls Try.prog 7 #[.slice a0 len0 cap0] w fun e w' => e = .returned (.bool true) ∧ Below w.heap.size w w' := by
  have hr := isRow_br w0
  have hl := isRow_len w0
  clear w0
  generalize z0.take len0 = bs at hr hl
  by_cases hbig : 4096 < len0
  · have HB := decide_eq_true hbig
    clear hbig
    go_enter Try.func7, Try.ntmps7
    go_wp2_with fail
    refine (laws_big_c _ _ _ _).mono ?_
    rintro e w' ⟨rfl, rfl⟩
    go_wp2_with fail
    go_ret
    exact ⟨rfl, Below.refl _ _⟩
  have hm : len0 ≤ 1048576 := by omega
  have HB := decide_eq_false hbig
  clear hbig
  have HL := Lib.hid hl
  clear hl
  have b0 := Lib.hid (Below.refl w.heap.size w)
  go_enter Try.func7, Try.ntmps7
  go_wp2_with fail
  refine (laws_big_c _ _ _ _).mono ?_
  rintro e w' ⟨rfl, rfl⟩
  go_wp2_with fail
  refine (spec_DrawWorstDeal_c a0 len0 cap0 bs _ HL.out hm (hr.below b0.out)).mono ?_
  rintro e w1 ⟨A, n, d, zs, B, m, e, ps, C, l, f, ds, rfl, hD⟩
  have hb1 := hD.below
  have B1 := Lib.hid (below_step b0.out hb1 b0.out.size)
  clear hb1
  have RS := hD.r
  have RP := hD.r'
  have RD := hD.r3
  go_wp2_with fail
  refine (impl_WorstDeal_c A n d zs B m e ps C l f ds _ hD.l.out hD.n1 RS.out hD.l'.out hD.m1 RP.out hD.l3.out hD.n3 RD.out hD.md).mono ?_
  rintro e w2 ⟨rfl, hb2⟩
  have B2 := Lib.hid (below_step B1.out hb2 B1.out.size)
  replace RS := Lib.hid (RS.out.below hb2)
  replace RP := Lib.hid (RP.out.below hb2)
  replace RD := Lib.hid (RD.out.below hb2)
  clear hb2
  go_wp2_with fail
  refine (spec_WorstDeal_c A n d zs B m e ps C l f ds _ hD.l.out hD.n1 RS.out hD.l'.out hD.m1 RP.out hD.l3.out hD.n3 RD.out hD.md).mono ?_
  rintro e w3 ⟨rfl, hb3⟩
  have B3 := Lib.hid (below_step B2.out hb3 B2.out.size)
  replace RS := Lib.hid (RS.out.below hb3)
  replace RP := Lib.hid (RP.out.below hb3)
  replace RD := Lib.hid (RD.out.below hb3)
  clear hb3
  go_wp2_with fail
  refine (spec_DrawIsAcceptable_c a0 len0 cap0 bs _ HL.out hm (hr.below B3.out)).mono ?_
  rintro e w4 ⟨A', n', d', zs', B', m', e', ps', C', l', f', ds', rfl, hD'⟩
  have hb4 := hD'.below
  have B4 := Lib.hid (below_step B3.out hb4 B3.out.size)
  replace RS := Lib.hid (RS.out.below hb4)
  replace RP := Lib.hid (RP.out.below hb4)
  replace RD := Lib.hid (RD.out.below hb4)
  clear hb4
  have RS' := hD'.r
  have RP' := hD'.r'
  have RD' := hD'.r3
  go_wp2_with fail
  refine (impl_IsAcceptable_c A' n' d' zs' B' m' e' ps' C' l' f' ds' _ hD'.l.out hD'.n1 RS'.out hD'.l'.out hD'.m1 RP'.out hD'.l3.out hD'.n3 RD'.out hD'.md).mono ?_
  rintro e w5 ⟨rfl, hb5⟩
  have B5 := Lib.hid (below_step B4.out hb5 B4.out.size)
  replace RS := Lib.hid (RS.out.below hb5)
  replace RP := Lib.hid (RP.out.below hb5)
  replace RD := Lib.hid (RD.out.below hb5)
  replace RS' := Lib.hid (RS'.out.below hb5)
  replace RP' := Lib.hid (RP'.out.below hb5)
  replace RD' := Lib.hid (RD'.out.below hb5)
  clear hb5
  go_wp2_with fail
  refine (spec_IsAcceptable_c A' n' d' zs' B' m' e' ps' C' l' f' ds' _ hD'.l.out hD'.n1 RS'.out hD'.l'.out hD'.m1 RP'.out hD'.l3.out hD'.n3 RD'.out hD'.md).mono ?_
  rintro e w6 ⟨rfl, hb6⟩
  have B6 := Lib.hid (below_step B5.out hb6 B5.out.size)
  replace RS := Lib.hid (RS.out.below hb6)
  replace RP := Lib.hid (RP.out.below hb6)
  replace RD := Lib.hid (RD.out.below hb6)
  replace RS' := Lib.hid (RS'.out.below hb6)
  replace RP' := Lib.hid (RP'.out.below hb6)
  replace RD' := Lib.hid (RD'.out.below hb6)
  clear hb6
  by_cases hE : dwE zs ps ds = 0
  · obtain ⟨k, k1, k2, k3, k4, k5, k6, k7⟩ := worst_law hE
    have HK := Lib.hid k1
    have HC := Lib.hid k7
    have hl3 := hD.l3.out
    have kl : k < l := by omega
    obtain ⟨x, hx⟩ := get_some (zs := ds) (k := k) (by omega)
    rw [show ds.getD k 0 = x by simp [List.getD, hx]] at k6 HC
    have HR6 := Lib.hid k6
    have HR5 := Lib.hid k5
    have H3 := Lib.hid k3
    have HX := Lib.hid hx
    rw [hE, k1]
    clear hE k1 k2 k3 k4 k5 k6 k7 hx hl3
    rcases RD.out.split with h0 | ⟨gd, od, rfl, hgd, hcd⟩
    · exfalso; have := hD.l3.out; omega
    have i1 : (k : Int) < (l : Int) := by omega
    have i2 : 0 ≤ (k : Int) := by omega
    go_wp2_with fail
    refine (impl_EquityOf_c A n d zs B m e ps k _ hD.l.out hD.n1 RS.out hD.l'.out hD.m1 RP.out hD.md).mono ?_
    rintro e' w7 ⟨rfl, hb7⟩
    rw [H3.out]
    obtain ⟨N, hN⟩ : ∃ N, eoN zs ps k = N := ⟨_, rfl⟩
    obtain ⟨D, hDn⟩ : ∃ D, eoD zs ps k = D := ⟨_, rfl⟩
    rw [hN, hDn, Int.mul_one] at HC
    rw [hN, hDn] at HR5
    rw [hN, hDn]
    have B7 := Lib.hid (below_step B6.out hb7 B6.out.size)
    have cx := (hb7.cell (p := ⟨gd, od + k, none⟩) hgd).trans (hcd.out k x HX.out)
    have gd7 : gd < w7.heap.size := Nat.lt_of_lt_of_le hgd hb7.size
    have T := Lib.hid (R2.new w7 N D)
    have c0 : (w7.alloc (.cells #[.int .i64 N, .int .i64 D] 48)).cell? ⟨gd, od + k, none⟩ = some (.int .i64 x) := ((below_al w7 _).cell (p := ⟨gd, od + k, none⟩) gd7).trans cx
    have B8 := Lib.hid (B7.out.alloc B7.out.size (.cells #[.int .i64 N, .int .i64 D] 48))
    obtain ⟨w8, hw8⟩ : ∃ w8 : World, w8 = (w7.alloc (.cells #[.int .i64 N, .int .i64 D] 48)) := ⟨_, rfl⟩
    obtain ⟨gt, hgt⟩ : ∃ gt : Nat, gt = w7.heap.size := ⟨_, rfl⟩
    have HW8 := Lib.hid hw8
    have HGT := Lib.hid hgt
    rw [← hw8] at c0 B8
    rw [← hw8, ← hgt] at T
    clear hb7 cx hN hDn hw8 hgt hcd RS RP RD RS' RP' RD' hD hD'
    obtain ⟨q0, q1, -, -⟩ := T.out.cells
    have gtl := T.out.lt
    have gd8 : gd < w8.heap.size := World.block_lt_of_cell? w8 _ c0
    go_upto_region 14 with (fail)
    rw [← HW8.out, ← HGT.out]
    go_cut [19, 20] (fun s19 s20 wc => s19 = .int .i64 (cmpI (x * D) N) ∧ s20 = .int .i64 0 ∧ Hid (Below w8.heap.size w8 wc))
    case first =>
      have mk : ∀ w' : World, Below w8.heap.size w8 w' → w'.cell? ⟨gd, od + k, none⟩ = some (.int .i64 x) ∧ w'.cell? ⟨gt, 0, none⟩ = some (.int .i64 N) ∧ w'.cell? ⟨gt, 1, none⟩ = some (.int .i64 D) ∧ Below w8.heap.size w8 w' := fun w' hB => ⟨(hB.cell (p := ⟨gd, od + k, none⟩) gd8).trans c0, (hB.cell (p := ⟨gt, 0, none⟩) gtl).trans q0, (hB.cell (p := ⟨gt, 1, none⟩) gtl).trans q1, hB⟩
      have MK := Lib.hid mk
      clear mk
      go_wp2_with fail
      go_region_held3 (fun w' => w'.cell? ⟨gd, od + k, none⟩ = some (.int .i64 x) ∧ w'.cell? ⟨gt, 0, none⟩ = some (.int .i64 N) ∧ w'.cell? ⟨gt, 1, none⟩ = some (.int .i64 D) ∧ Below w8.heap.size w8 w')
        ((first
          | exact MK.out _ (Below.refl _ _).drew
          | exact MK.out _ B2
          | exact MK.out _ (fourth (by assumption))))
        ((first
          | (go_at_call 43; refine (impl_CompareRatios_c _ _ _ _ _ HR6.out HR5.out).mono ?_; rintro e w2 ⟨rfl, b2⟩; have B2 : Below w8.heap.size w8 w2 := bel_st (w := w8.drew) (Below.refl _ _).drew b2)))
      all_goals
        go_wp2_with fail
        go_meet
        exact ⟨rfl, rfl, Lib.hid B2⟩
    case rest =>
    obtain ⟨rfl, rfl, hbc⟩ := hcut
    have B9 := Lib.hid (below_step B8.out hbc.out B8.out.size)
    obtain ⟨cv, hcv⟩ : ∃ cv, cmpI (x * D) N = cv := ⟨_, rfl⟩
    rw [hcv] at HC
    rw [hcv]
    have d1 : cv ≤ 0 := by have := HC.out; omega
    clear hcv hbc c0 q0 q1
    go_wp2_with fail
    go_ret
    exact ⟨ret_bool (by simp), B9.out⟩
  · have z1 : (dwE zs ps ds != 0) = true := by simp [hE]
    obtain ⟨E, hE2⟩ : ∃ E, dwE zs ps ds = E := ⟨_, rfl⟩
    rw [hE2] at z1 hE
    rw [hE2]
    clear hE2
    go_wp2_with fail
    go_ret
    exact ⟨rfl, B6.out⟩

set_option maxRecDepth 100000 in
theorem lifted (os : Os) (started : os.Started) (H : Type) (enc : TypeId × Value → H) :
    ReturnsInHanded {} Try.checked os 7 .any (Rows.fnWorstSpec.pre6 enc Try.prog Try.f7 Rows.fnWorstRow.domain false) (Rows.fnWorstSpec.post enc Try.prog Try.f7 false true false false) := by
  refine returnsInHanded_of_change (C := Try.checked) own started (by kernel_rfl) Try.func7
    (ChangeSpec.witness6 (enc := enc) (C := Try.checked) false ⟨#[], #[.slice none 0 0], []⟩ 8 (by kernel_rfl) (by kernel_rfl) (by kernel_rfl) (by kernel_rfl)) ?_
  intro W base args ds gs before hval0 hW hcnd _
  have hval : ∀ (j : Nat) t v, Try.f7.params[j]? = some t → args[j]? = some v → Value.okWide Try.prog W .any base t v := hval0
  have hW' := hW
  obtain ⟨p, q, hA0, hV, rfl, hfz, hnd⟩ := hW
  have hA : DataW.TrodAll enc Try.prog W 0 (fun _ => true) true Try.f7.params.toList args.toList ds p := hA0
  rw [Try.params7] at hA hval
  obtain ⟨v0, vs0, d0, ds0, p0, q0, hargs, rfl, rfl, h0, r0⟩ := trodAll_cons hA
  obtain ⟨rfl, rfl, rfl⟩ := trodAll_nil r0
  obtain rfl : args = #[v0] := by cases args; simp_all
  obtain ⟨rfl, rfl⟩ := trodVars_none hV
  obtain ⟨a0, len0, cap0, rfl⟩ := okWide_slice Try.underlying31 (hval 0 31 v0 rfl rfl)
  have k0 := h0
  have lt0 : ∀ x ∈ p0, x.block < W.heap.size := by obtain ⟨m, hm⟩ := k0; exact DataW.trod_lt m _ _ _ hm
  obtain ⟨z0, w0⟩ : ∃ zs, IsRow .u8 W a0 len0 cap0 zs := by
    obtain ⟨fuel, hf⟩ := h0
    rcases open_ints Try.underlying31 Try.underlying5 (by kernel_rfl) hf with ⟨hcs, _⟩ | ⟨x, l, c, zs, hcs, _, hl, hm, hz, _, hcell, hwz⟩
    · simp [Value.cells] at hcs
      obtain ⟨rfl, rfl, rfl⟩ := hcs
      exact ⟨[], .inl ⟨rfl, rfl, rfl, rfl⟩⟩
    · simp [Value.cells] at hcs
      obtain ⟨rfl, rfl, rfl⟩ := hcs
      exact ⟨zs, .inr ⟨_, rfl, hl, hm, by simpa using hz, hcell, hwz⟩⟩
  clear hA0 hval0
  refine (walk a0 len0 cap0 z0 W w0).mono fun e W' ⟨he, bel⟩ => ?_
  subst he
  exact ⟨_, rfl, _, _, _, [], _, [], hW', trodAll_mk1 (shut_bool Try.underlying4 _), (trodAll_cons_mk (Below.trod laidOut (by kernel_rfl) (of_decide_eq_true (by kernel_rfl)) k0 bel lt0) trodAll_mk0), rfl, bel.frame _, fun h => by cases h⟩

theorem over : Rows.fnWorstRow.holds Try.pinned (OpenSpec.ofChange Rows.fnWorstSpec) :=
  OpenClaim.holds_of_wide 7 Try.f7 rfl rfl rfl rfl rfl rfl rfl ⟨rfl, rfl, rfl, rfl, rfl⟩ rfl rfl rfl rfl rfl (by kernel_rfl) Try.func7 (by kernel_rfl)
    (of_decide_eq_true (by kernel_rfl)) (by unfold Func.isWrapper; first | (rw [if_pos (by decide +kernel)]; kernel_rfl) | (rw [if_neg (by decide +kernel)]; exact ⟨rfl, rfl⟩))
    (fun os started H enc _ => lifted os started H enc)

/-- THE STATEMENT. -/
theorem proved : Rows.FnWorstSaid := over
#print axioms proved
end Go.Proofs.Ythpgkngkmmameaa.fnWorst
