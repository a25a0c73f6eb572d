/-
  PROVED: 'FnStatistics' returns true for every input and leaves its arguments as they were. Conditions: none but the statement's own.
-/
import Derived.Test.YtcdianhemnpmcaaFrame
import Derived.Test.YtcdianhemnpmcaaArgB
import Derived.Test.YtcdianhemnpmcaaStatFacts
import Derived.Test.YtcdianhemnpmcaaDrawList
import Derived.Test.YtcdianhemnpmcaaLike
import Derived.Test.YtcdianhemnpmcaaMul
import Derived.Test.YtcdianhemnpmcaaRuns
namespace Go.Proofs.Ytcdianhemnpmcaa.fnStatistics
open Go.ChangeShapes Go.WideShapes Go.ChangeAt Go.RowKit
open Go.ChangeMaps (open_string shut_string)
set_option linter.unusedVariables false

set_option maxRecDepth 20000 in
set_option maxHeartbeats 2000000 in
/-- THE WALK. -/
theorem walk (a0 : Option Addr) (len0 cap0 : Nat) (z0 : List Int) (w : World) (w0 : IsRow .u8 w a0 len0 cap0 z0) :
    Calls Try.prog 13 #[.slice a0 len0 cap0] w fun e w' => e = .returned (.bool true) ∧ Below w.heap.size w w' := by
  have hr := isRow_br w0
  have hl := isRow_len w0
  clear w0
  generalize z0.take len0 = bs at hr hl
  by_cases hbig : 4096 < len0
  · have HB := decide_eq_true hbig
    clear hbig
    go_enter Try.func13, Try.ntmps13
    go_wp2_with fail
    refine (laws_big_c _ _ _ _).mono ?_
    rintro e w' ⟨rfl, rfl⟩
    go_wp2_with fail
    go_ret
    exact ⟨rfl, Below.refl _ _⟩
  have hm : len0 ≤ 1048576 := by omega
  have HB := decide_eq_false hbig
  clear hbig
  have HL := Lib.hid hl
  clear hl
  have b0 := Lib.hid (Below.refl w.heap.size w)
  go_enter Try.func13, Try.ntmps13
  go_wp2_with fail
  refine (laws_big_c _ _ _ _).mono ?_
  rintro e w' ⟨rfl, rfl⟩
  go_wp2_with fail
  refine (spec_DrawVarianceOf_c a0 len0 cap0 bs _ HL.out hm (hr.below b0.out)).mono ?_
  rintro e w1 ⟨A, n, d, zs, rfl, hzl, hzm, hri, hb1⟩
  have B1 := Lib.hid (below_step b0.out hb1 b0.out.size)
  clear hb1
  have R := Lib.hid hri
  clear hri
  go_wp2_with fail
  refine (impl_VarianceOf_c A n d zs _ hzl.out hzm R.out).mono ?_
  rintro e w2 ⟨rfl, hb2⟩
  have B2 := Lib.hid (below_step B1.out hb2 B1.out.size)
  replace R := Lib.hid (R.out.below hb2)
  clear hb2
  replace R := Lib.hid (R.out.alloc (.cells #[.int .i64 (varN zs), .int .i64 (varD zs)] 23 (0, 0)))
  have T1 := Lib.hid (R2.new w2 (varN zs) (varD zs))
  have C2 := Lib.hid (B2.out.alloc B2.out.size (.cells #[.int .i64 (varN zs), .int .i64 (varD zs)] 23 (0, 0)))
  go_wp2_with fail
  refine (spec_VarianceOf_c A n d zs _ hzl.out hzm R.out).mono ?_
  rintro e w3 ⟨rfl, hb3⟩
  have B3 := Lib.hid (below_step C2.out hb3 C2.out.size)
  replace R := Lib.hid (R.out.below hb3)
  replace T1 := Lib.hid (T1.out.below hb3)
  clear hb3
  replace R := Lib.hid (R.out.alloc (.cells #[.int .i64 (varN zs), .int .i64 (varD zs)] 23 (0, 0)))
  replace T1 := Lib.hid (T1.out.alloc (.cells #[.int .i64 (varN zs), .int .i64 (varD zs)] 23 (0, 0)))
  have T2 := Lib.hid (R2.new w3 (varN zs) (varD zs))
  have C3 := Lib.hid (B3.out.alloc B3.out.size (.cells #[.int .i64 (varN zs), .int .i64 (varD zs)] 23 (0, 0)))
  go_wp2_with fail
  refine (impl_MeanOf_c A n d zs _ hzl.out hzm R.out).mono ?_
  rintro e w4 ⟨rfl, hb4⟩
  have B4 := Lib.hid (below_step C3.out hb4 C3.out.size)
  replace R := Lib.hid (R.out.below hb4)
  replace T1 := Lib.hid (T1.out.below hb4)
  replace T2 := Lib.hid (T2.out.below hb4)
  clear hb4
  replace R := Lib.hid (R.out.alloc (.cells #[.int .i64 (meanN zs), .int .i64 (meanD zs)] 23 (0, 0)))
  replace T1 := Lib.hid (T1.out.alloc (.cells #[.int .i64 (meanN zs), .int .i64 (meanD zs)] 23 (0, 0)))
  replace T2 := Lib.hid (T2.out.alloc (.cells #[.int .i64 (meanN zs), .int .i64 (meanD zs)] 23 (0, 0)))
  have T3 := Lib.hid (R2.new w4 (meanN zs) (meanD zs))
  have C4 := Lib.hid (B4.out.alloc B4.out.size (.cells #[.int .i64 (meanN zs), .int .i64 (meanD zs)] 23 (0, 0)))
  go_wp2_with fail
  refine (spec_MeanOf_c A n d zs _ hzl.out hzm R.out).mono ?_
  rintro e w5 ⟨rfl, hb5⟩
  have B5 := Lib.hid (below_step C4.out hb5 C4.out.size)
  replace R := Lib.hid (R.out.below hb5)
  replace T1 := Lib.hid (T1.out.below hb5)
  replace T2 := Lib.hid (T2.out.below hb5)
  replace T3 := Lib.hid (T3.out.below hb5)
  clear hb5
  replace R := Lib.hid (R.out.alloc (.cells #[.int .i64 (meanN zs), .int .i64 (meanD zs)] 23 (0, 0)))
  replace T1 := Lib.hid (T1.out.alloc (.cells #[.int .i64 (meanN zs), .int .i64 (meanD zs)] 23 (0, 0)))
  replace T2 := Lib.hid (T2.out.alloc (.cells #[.int .i64 (meanN zs), .int .i64 (meanD zs)] 23 (0, 0)))
  replace T3 := Lib.hid (T3.out.alloc (.cells #[.int .i64 (meanN zs), .int .i64 (meanD zs)] 23 (0, 0)))
  have T4 := Lib.hid (R2.new w5 (meanN zs) (meanD zs))
  have C5 := Lib.hid (B5.out.alloc B5.out.size (.cells #[.int .i64 (meanN zs), .int .i64 (meanD zs)] 23 (0, 0)))
  go_wp2_with fail
  refine (impl_BalancesOf_c A n d zs _ hzl.out hzm R.out).mono ?_
  rintro e w6 ⟨G1, n1, d1, rfl, hl1, hm1, ho1, hb6⟩
  have B6 := Lib.hid (below_step C5.out hb6 C5.out.size)
  replace R := Lib.hid (R.out.below hb6)
  replace T1 := Lib.hid (T1.out.below hb6)
  replace T2 := Lib.hid (T2.out.below hb6)
  replace T3 := Lib.hid (T3.out.below hb6)
  replace T4 := Lib.hid (T4.out.below hb6)
  clear hb6
  have R1 := Lib.hid ho1.ri
  clear ho1
  go_wp2_with fail
  refine (spec_BalancesOf_c A n d zs _ hzl.out hzm R.out).mono ?_
  rintro e w7 ⟨G2, n2, d2, rfl, hl2, hm2, ho2, hb7⟩
  have B7 := Lib.hid (below_step B6.out hb7 B6.out.size)
  replace R := Lib.hid (R.out.below hb7)
  replace T1 := Lib.hid (T1.out.below hb7)
  replace T2 := Lib.hid (T2.out.below hb7)
  replace T3 := Lib.hid (T3.out.below hb7)
  replace T4 := Lib.hid (T4.out.below hb7)
  replace R1 := Lib.hid (R1.out.below hb7)
  clear hb7
  have R2' := Lib.hid ho2.ri
  clear ho2
  go_wp2_with fail
  refine (impl_ExpectedRuns_c A n d zs _ hzl.out hzm R.out).mono ?_
  rintro e w' ⟨rfl, rfl⟩
  go_wp2_with fail
  refine (spec_ExpectedRuns_c A n d zs _ hzl.out hzm R.out).mono ?_
  rintro e w' ⟨rfl, rfl⟩
  obtain ⟨T1a, T1b, -, -⟩ := T1.out.cells
  have T1z := T1.out.lt
  obtain ⟨T2a, T2b, -, -⟩ := T2.out.cells
  have T2z := T2.out.lt
  obtain ⟨T3a, T3b, -, -⟩ := T3.out.cells
  have T3z := T3.out.lt
  obtain ⟨T4a, T4b, -, -⟩ := T4.out.cells
  have T4z := T4.out.lt
  go_wp2_with fail
  refine (laws_likeInts_c G1 G2 n1 n2 d1 d2 (balV zs) _ hl1.out hl2.out hm1 R1.out R2'.out).mono ?_
  rintro e w8 ⟨rfl, hb8⟩
  have B8 := Lib.hid (below_step B7.out hb8 B7.out.size)
  replace R := Lib.hid (R.out.below hb8)
  replace T1 := Lib.hid (T1.out.below hb8)
  replace T2 := Lib.hid (T2.out.below hb8)
  replace T3 := Lib.hid (T3.out.below hb8)
  replace T4 := Lib.hid (T4.out.below hb8)
  replace R1 := Lib.hid (R1.out.below hb8)
  replace R2' := Lib.hid (R2'.out.below hb8)
  clear hb8
  clear T1a T1b T1z T2a T2b T2z T3a T3b T3z T4a T4b T4z
  obtain ⟨T1a, T1b, -, -⟩ := T1.out.cells
  have T1z := T1.out.lt
  obtain ⟨T3a, T3b, -, -⟩ := T3.out.cells
  have T3z := T3.out.lt
  cases hres : resB zs
  · have v1 : varE zs = 1 := by simp [varE, hres]
    have v2 : balE zs = 1 := by simp [balE, hres]
    clear hres
    go_wp2_with fail
    go_ret
    exact ⟨rfl, B8.out⟩
  have v2 : balE zs = 0 := by simp [balE, hres]
  have v3 := var_nonneg hres
  obtain ⟨k1, k2⟩ := bal_last hres
  by_cases hme : meanE zs = 0
  · have hmf := mean_fact hres hme
    obtain ⟨hmb0, hmb1⟩ := mean_bounds hres hme
    have hpos := (resB_iff.1 hres).1
    have hn := hzl.out
    have hn2 := hl2.out
    obtain ⟨m, rfl⟩ : ∃ m, n = m + 1 := ⟨n - 1, by omega⟩
    obtain rfl : n2 = m + 1 := by omega
    rw [hn] at hmf hmb0 hmb1 k2
    rw [Nat.add_sub_cancel] at k2
    rcases R2'.out.split with h0 | ⟨gb, goff, rfl, hgl, hc⟩
    · exfalso; omega
    have hcell := hc.out m _ k2
    have g1 : (0 : Int) ≤ (m : Int) := by omega
    have g2 : (m : Int) < ((m + 1 : Nat) : Int) := by omega
    have hmb2 := hmb0
    have hmb3 := hmb1
    rw [← hmf] at hmb2 hmb3
    have HMF := Lib.hid hmf
    have HW := Lib.hid (show wrap64 (meanN zs * ((m : Int) + 1)) = meanN zs * ((m : Int) + 1) from IntWalk.wrap64_in _ (by rw [Int.natCast_add] at hmb0 hmb1; simp at hmb0 hmb1; omega))
    clear hc k2 k1 hres hpos hn hn2 hmf hgl
    go_wp2_with fail
    all_goals
      go_quiet (fail)
      go_wp2_with fail
      go_ret
      exact ⟨ret_bool (by simp [HMF.out]; exact HW.out.symm), below_drewN B8.out _⟩
  · clear k1 k2 hres
    go_wp2_with fail
    all_goals
      go_quiet (fail)
      go_wp2_with fail
      go_ret
      exact ⟨rfl, below_drewN B8.out _⟩

set_option maxRecDepth 100000 in
theorem lifted (os : Os) (started : os.Started) (H : Type) (enc : TypeId × Value → H) :
    ReturnsInHanded {} Try.checked os 13 .any (Rows.fnStatisticsSpec.pre6 enc Try.prog Try.f13 Rows.fnStatisticsRow.domain false) (Rows.fnStatisticsSpec.post enc Try.prog Try.f13 false true false false) := by
  refine returnsInHanded_of_change (C := Try.checked) own started (by kernel_rfl) Try.func13
    (ChangeSpec.witness6 (enc := enc) (C := Try.checked) false ⟨#[], #[.slice none 0 0], []⟩ 8 (by kernel_rfl) (by kernel_rfl) (by kernel_rfl) (by kernel_rfl)) ?_
  intro W base args ds gs before hval0 hW hcnd _
  have hval : ∀ (j : Nat) t v, Try.f13.params[j]? = some t → args[j]? = some v → Value.okWide Try.prog W .any base t v := hval0
  have hW' := hW
  obtain ⟨p, q, hA0, hV, rfl, hfz, hnd⟩ := hW
  have hA : DataW.TrodAll enc Try.prog W 0 (fun _ => true) true Try.f13.params.toList args.toList ds p := hA0
  rw [Try.params13] at hA hval
  obtain ⟨v0, vs0, d0, ds0, p0, q0, hargs, rfl, rfl, h0, r0⟩ := trodAll_cons hA
  obtain ⟨rfl, rfl, rfl⟩ := trodAll_nil r0
  obtain rfl : args = #[v0] := by cases args; simp_all
  obtain ⟨rfl, rfl⟩ := trodVars_none hV
  obtain ⟨a0, len0, cap0, rfl⟩ := okWide_slice Try.underlying44 (hval 0 44 v0 rfl rfl)
  have k0 := h0
  have lt0 : ∀ x ∈ p0, x.block < W.heap.size := by obtain ⟨m, hm⟩ := k0; exact DataW.trod_lt m _ _ _ hm
  obtain ⟨z0, w0⟩ : ∃ zs, IsRow .u8 W a0 len0 cap0 zs := by
    obtain ⟨fuel, hf⟩ := h0
    rcases open_ints Try.underlying44 Try.underlying5 (by kernel_rfl) hf with ⟨hcs, _⟩ | ⟨x, l, c, zs, hcs, _, hl, hm, hz, _, hcell, hwz⟩
    · simp [Value.cells] at hcs
      obtain ⟨rfl, rfl, rfl⟩ := hcs
      exact ⟨[], .inl ⟨rfl, rfl, rfl, rfl⟩⟩
    · simp [Value.cells] at hcs
      obtain ⟨rfl, rfl, rfl⟩ := hcs
      exact ⟨zs, .inr ⟨_, rfl, hl, hm, by simpa using hz, hcell, hwz⟩⟩
  clear hA0 hval0
  refine (walk a0 len0 cap0 z0 W w0).mono fun e W' ⟨he, bel⟩ => ?_
  subst he
  exact ⟨_, rfl, _, _, _, [], _, [], hW', trodAll_mk1 (shut_bool Try.underlying4 _), (trodAll_cons_mk (Below.trod laidOut (by kernel_rfl) (of_decide_eq_true (by kernel_rfl)) k0 bel lt0) trodAll_mk0), rfl, bel.frame _, fun h => by cases h⟩

theorem over : Rows.fnStatisticsRow.holds Try.pinned (OpenSpec.ofChange Rows.fnStatisticsSpec) :=
  OpenClaim.holds_of_wide 13 Try.f13 rfl rfl rfl rfl rfl rfl rfl ⟨rfl, rfl, rfl, rfl, rfl⟩ rfl rfl rfl rfl rfl (by kernel_rfl) Try.func13 (by kernel_rfl)
    (of_decide_eq_true (by kernel_rfl)) (by unfold Func.isWrapper; first | (rw [if_pos (by decide +kernel)]; kernel_rfl) | (rw [if_neg (by decide +kernel)]; exact ⟨rfl, rfl⟩))
    (fun os started H enc _ => lifted os started H enc)

/-- THE STATEMENT. -/
theorem proved : Rows.FnStatisticsSaid := over
#print axioms proved
end Go.Proofs.Ytcdianhemnpmcaa.fnStatistics
