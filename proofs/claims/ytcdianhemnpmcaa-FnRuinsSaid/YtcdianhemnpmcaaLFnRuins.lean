/-
  PROVED: 'FnRuins' returns true for every input and leaves its arguments as they were. Conditions: none but the statement's own.
-/
import Derived.Test.YtcdianhemnpmcaaFrame
import Derived.Test.YtcdianhemnpmcaaArgB
import Derived.Test.YtcdianhemnpmcaaRuinFacts
import Derived.Test.YtcdianhemnpmcaaDrawBank
import Derived.Test.YtcdianhemnpmcaaMul
namespace Go.Proofs.Ytcdianhemnpmcaa.fnRuins
open Go.ChangeShapes Go.WideShapes Go.ChangeAt Go.RowKit
open Go.ChangeMaps (open_string shut_string)
set_option linter.unusedVariables false

set_option maxRecDepth 20000 in
set_option maxHeartbeats 2000000 in
/-- THE WALK. -/
theorem walk (a0 : Option Addr) (len0 cap0 : Nat) (z0 : List Int) (w : World) (w0 : IsRow .u8 w a0 len0 cap0 z0) :
    Calls Try.prog 12 #[.slice a0 len0 cap0] w fun e w' => e = .returned (.bool true) ∧ Below w.heap.size w w' := by
  have hr := isRow_br w0
  have hl := isRow_len w0
  clear w0
  generalize z0.take len0 = bs at hr hl
  by_cases hbig : 4096 < len0
  · have HB := decide_eq_true hbig
    clear hbig
    go_enter Try.func12, Try.ntmps12
    go_wp2_with fail
    refine (laws_big_c _ _ _ _).mono ?_
    rintro e w' ⟨rfl, rfl⟩
    go_wp2_with fail
    go_ret
    exact ⟨rfl, Below.refl _ _⟩
  have hm : len0 ≤ 1048576 := by omega
  have HB := decide_eq_false hbig
  clear hbig
  have HL := Lib.hid hl
  clear hl
  have b0 := Lib.hid (Below.refl w.heap.size w)
  go_enter Try.func12, Try.ntmps12
  go_wp2_with fail
  refine (laws_big_c _ _ _ _).mono ?_
  rintro e w' ⟨rfl, rfl⟩
  go_wp2_with fail
  refine (spec_DrawRuinChance_c a0 len0 cap0 bs _ HL.out hm (hr.below b0.out)).mono ?_
  rintro e w1 ⟨a, l, bk, rfl, bk0, bk1, hb1⟩
  have B1 := Lib.hid (below_step b0.out hb1 b0.out.size)
  clear hb1
  go_wp2_with fail
  refine (impl_RuinChance_c _ _ _ _).mono ?_
  rintro e w2 ⟨rfl, hb2⟩
  have B2 := Lib.hid (below_step B1.out hb2 B1.out.size)
  clear hb2
  have T1 := Lib.hid (R2.new w2 (ruiN a l bk) (ruiD a l bk))
  have C2 := Lib.hid (B2.out.alloc B2.out.size (.cells #[.int .i64 (ruiN a l bk), .int .i64 (ruiD a l bk)] 23 (0, 0)))
  go_wp2_with fail
  refine (spec_RuinChance_c _ _ _ _).mono ?_
  rintro e w3 ⟨rfl, hb3⟩
  have B3 := Lib.hid (below_step C2.out hb3 C2.out.size)
  replace T1 := Lib.hid (T1.out.below hb3)
  clear hb3
  replace T1 := Lib.hid (T1.out.alloc (.cells #[.int .i64 (ruiN a l bk), .int .i64 (ruiD a l bk)] 23 (0, 0)))
  have T2 := Lib.hid (R2.new w3 (ruiN a l bk) (ruiD a l bk))
  have C3 := Lib.hid (B3.out.alloc B3.out.size (.cells #[.int .i64 (ruiN a l bk), .int .i64 (ruiD a l bk)] 23 (0, 0)))
  go_wp2_with fail
  refine (spec_DrawTargetChance_c a0 len0 cap0 bs _ HL.out hm (hr.below C3.out)).mono ?_
  rintro e w4 ⟨ta, tl, tb, tt, rfl, hb4⟩
  have B4 := Lib.hid (below_step C3.out hb4 C3.out.size)
  replace T1 := Lib.hid (T1.out.below hb4)
  replace T2 := Lib.hid (T2.out.below hb4)
  clear hb4
  go_wp2_with fail
  refine (impl_TargetChance_c _ _ _ _ _).mono ?_
  rintro e w5 ⟨rfl, hb5⟩
  have B5 := Lib.hid (below_step B4.out hb5 B4.out.size)
  replace T1 := Lib.hid (T1.out.below hb5)
  replace T2 := Lib.hid (T2.out.below hb5)
  clear hb5
  replace T1 := Lib.hid (T1.out.alloc (.cells #[.int .i64 (tcN ta tl tb tt), .int .i64 (tcD ta tl tb tt)] 23 (0, 0)))
  replace T2 := Lib.hid (T2.out.alloc (.cells #[.int .i64 (tcN ta tl tb tt), .int .i64 (tcD ta tl tb tt)] 23 (0, 0)))
  have T3 := Lib.hid (R2.new w5 (tcN ta tl tb tt) (tcD ta tl tb tt))
  have C5 := Lib.hid (B5.out.alloc B5.out.size (.cells #[.int .i64 (tcN ta tl tb tt), .int .i64 (tcD ta tl tb tt)] 23 (0, 0)))
  go_wp2_with fail
  refine (spec_TargetChance_c _ _ _ _ _).mono ?_
  rintro e w6 ⟨rfl, hb6⟩
  have B6 := Lib.hid (below_step C5.out hb6 C5.out.size)
  replace T1 := Lib.hid (T1.out.below hb6)
  replace T2 := Lib.hid (T2.out.below hb6)
  replace T3 := Lib.hid (T3.out.below hb6)
  clear hb6
  replace T1 := Lib.hid (T1.out.alloc (.cells #[.int .i64 (tcN ta tl tb tt), .int .i64 (tcD ta tl tb tt)] 23 (0, 0)))
  replace T2 := Lib.hid (T2.out.alloc (.cells #[.int .i64 (tcN ta tl tb tt), .int .i64 (tcD ta tl tb tt)] 23 (0, 0)))
  replace T3 := Lib.hid (T3.out.alloc (.cells #[.int .i64 (tcN ta tl tb tt), .int .i64 (tcD ta tl tb tt)] 23 (0, 0)))
  have T4 := Lib.hid (R2.new w6 (tcN ta tl tb tt) (tcD ta tl tb tt))
  have C6 := Lib.hid (B6.out.alloc B6.out.size (.cells #[.int .i64 (tcN ta tl tb tt), .int .i64 (tcD ta tl tb tt)] 23 (0, 0)))
  go_wp2_with fail
  refine (spec_DrawGrowthShare_c a0 len0 cap0 bs _ HL.out hm (hr.below C6.out)).mono ?_
  rintro e w7 ⟨x, y, rfl, hb7⟩
  have B7 := Lib.hid (below_step C6.out hb7 C6.out.size)
  replace T1 := Lib.hid (T1.out.below hb7)
  replace T2 := Lib.hid (T2.out.below hb7)
  replace T3 := Lib.hid (T3.out.below hb7)
  replace T4 := Lib.hid (T4.out.below hb7)
  clear hb7
  go_wp2_with fail
  refine (impl_GrowthShare_c _ _ _).mono ?_
  rintro e w8 ⟨rfl, hb8⟩
  have B8 := Lib.hid (below_step B7.out hb8 B7.out.size)
  replace T1 := Lib.hid (T1.out.below hb8)
  replace T2 := Lib.hid (T2.out.below hb8)
  replace T3 := Lib.hid (T3.out.below hb8)
  replace T4 := Lib.hid (T4.out.below hb8)
  clear hb8
  replace T1 := Lib.hid (T1.out.alloc (.cells #[.int .i64 (groN x y), .int .i64 (groD x y)] 23 (0, 0)))
  replace T2 := Lib.hid (T2.out.alloc (.cells #[.int .i64 (groN x y), .int .i64 (groD x y)] 23 (0, 0)))
  replace T3 := Lib.hid (T3.out.alloc (.cells #[.int .i64 (groN x y), .int .i64 (groD x y)] 23 (0, 0)))
  replace T4 := Lib.hid (T4.out.alloc (.cells #[.int .i64 (groN x y), .int .i64 (groD x y)] 23 (0, 0)))
  have T5 := Lib.hid (R2.new w8 (groN x y) (groD x y))
  have C8 := Lib.hid (B8.out.alloc B8.out.size (.cells #[.int .i64 (groN x y), .int .i64 (groD x y)] 23 (0, 0)))
  go_wp2_with fail
  refine (spec_GrowthShare_c _ _ _).mono ?_
  rintro e w9 ⟨rfl, hb9⟩
  have B9 := Lib.hid (below_step C8.out hb9 C8.out.size)
  replace T1 := Lib.hid (T1.out.below hb9)
  replace T2 := Lib.hid (T2.out.below hb9)
  replace T3 := Lib.hid (T3.out.below hb9)
  replace T4 := Lib.hid (T4.out.below hb9)
  replace T5 := Lib.hid (T5.out.below hb9)
  clear hb9
  obtain ⟨T1a, T1b, -, -⟩ := T1.out.cells
  have T1z := T1.out.lt
  obtain ⟨T2a, T2b, -, -⟩ := T2.out.cells
  have T2z := T2.out.lt
  obtain ⟨T3a, T3b, -, -⟩ := T3.out.cells
  have T3z := T3.out.lt
  obtain ⟨T4a, T4b, -, -⟩ := T4.out.cells
  have T4z := T4.out.lt
  obtain ⟨T5a, T5b, -, -⟩ := T5.out.cells
  have T5z := T5.out.lt
  replace T1 := Lib.hid (T1.out.alloc (.cells #[.int .i64 (groN x y), .int .i64 (groD x y)] 23 (0, 0)))
  have T6 := Lib.hid (R2.new w9 (groN x y) (groD x y))
  have C9 := Lib.hid (B9.out.alloc B9.out.size (.cells #[.int .i64 (groN x y), .int .i64 (groD x y)] 23 (0, 0)))
  go_wp2_with fail
  all_goals first
    | (go_ret; exact ⟨rfl, C9.out⟩)
    | (exfalso
       have h1 := gro_fact (a := x) (l := y) (by assumption)
       simp_all
       done)
    | (exfalso
       have h1 := tc_fact (a := ta) (l := tl) (b := tt) (by simp_all)
       simp_all
       done)
    | skip
  all_goals
    obtain ⟨e1, e2, -⟩ := rui_fact (a := a) (l := l) (b := bk) (by assumption) (by assumption)
    have hR := Lib.hid (show ruiE a l bk = 0 by assumption)
    have hB := Lib.hid (show 2 ≤ bk by assumption)
    refine (impl_RuinChance_c _ _ _ _).mono ?_
    rintro e w10 ⟨rfl, hb10⟩
    have B10 := Lib.hid (below_step C9.out hb10 C9.out.size)
    replace T1 := Lib.hid (T1.out.below hb10)
    replace T6 := Lib.hid (T6.out.below hb10)
    clear hb10
    replace T1 := Lib.hid (T1.out.alloc (.cells #[.int .i64 (ruiN a l (bk - 1)), .int .i64 (ruiD a l (bk - 1))] 23 (0, 0)))
    replace T6 := Lib.hid (T6.out.alloc (.cells #[.int .i64 (ruiN a l (bk - 1)), .int .i64 (ruiD a l (bk - 1))] 23 (0, 0)))
    have T7 := Lib.hid (R2.new w10 (ruiN a l (bk - 1)) (ruiD a l (bk - 1)))
    have C10 := Lib.hid (B10.out.alloc B10.out.size (.cells #[.int .i64 (ruiN a l (bk - 1)), .int .i64 (ruiD a l (bk - 1))] 23 (0, 0)))
    go_wp2_with fail
    refine (impl_RuinChance_c _ _ _ _).mono ?_
    rintro e w11 ⟨rfl, hb11⟩
    have B11 := Lib.hid (below_step C10.out hb11 C10.out.size)
    replace T1 := Lib.hid (T1.out.below hb11)
    replace T6 := Lib.hid (T6.out.below hb11)
    replace T7 := Lib.hid (T7.out.below hb11)
    clear hb11
    obtain ⟨T7a, T7b, -, -⟩ := T7.out.cells
    have T7z := T7.out.lt
    replace T1 := Lib.hid (T1.out.alloc (.cells #[.int .i64 (ruiN a l 1), .int .i64 (ruiD a l 1)] 23 (0, 0)))
    replace T6 := Lib.hid (T6.out.alloc (.cells #[.int .i64 (ruiN a l 1), .int .i64 (ruiD a l 1)] 23 (0, 0)))
    replace T7 := Lib.hid (T7.out.alloc (.cells #[.int .i64 (ruiN a l 1), .int .i64 (ruiD a l 1)] 23 (0, 0)))
    have T8 := Lib.hid (R2.new w11 (ruiN a l 1) (ruiD a l 1))
    have C11 := Lib.hid (B11.out.alloc B11.out.size (.cells #[.int .i64 (ruiN a l 1), .int .i64 (ruiD a l 1)] 23 (0, 0)))
    go_wp2_with fail
    refine (mul_rui hR.out hB.out _).mono ?_
    rintro e w12 ⟨rfl, hb12⟩
    have B12 := Lib.hid (below_step C11.out hb12 C11.out.size)
    replace T1 := Lib.hid (T1.out.below hb12)
    replace T6 := Lib.hid (T6.out.below hb12)
    replace T7 := Lib.hid (T7.out.below hb12)
    replace T8 := Lib.hid (T8.out.below hb12)
    clear hb12
    obtain ⟨T1a, T1b, -, -⟩ := T1.out.cells
    have T1z := T1.out.lt
    go_wp2_with fail
    go_ret
    first | exact ⟨rfl, B12.out⟩ | exact ⟨rfl, B12.out.alloc B12.out.size _⟩

set_option maxRecDepth 100000 in
theorem lifted (os : Os) (started : os.Started) (H : Type) (enc : TypeId × Value → H) :
    ReturnsInHanded {} Try.checked os 12 .any (Rows.fnRuinsSpec.pre6 enc Try.prog Try.f12 Rows.fnRuinsRow.domain false) (Rows.fnRuinsSpec.post enc Try.prog Try.f12 false true false false) := by
  refine returnsInHanded_of_change (C := Try.checked) own started (by kernel_rfl) Try.func12
    (ChangeSpec.witness6 (enc := enc) (C := Try.checked) false ⟨#[], #[.slice none 0 0], []⟩ 8 (by kernel_rfl) (by kernel_rfl) (by kernel_rfl) (by kernel_rfl)) ?_
  intro W base args ds gs before hval0 hW hcnd _
  have hval : ∀ (j : Nat) t v, Try.f12.params[j]? = some t → args[j]? = some v → Value.okWide Try.prog W .any base t v := hval0
  have hW' := hW
  obtain ⟨p, q, hA0, hV, rfl, hfz, hnd⟩ := hW
  have hA : DataW.TrodAll enc Try.prog W 0 (fun _ => true) true Try.f12.params.toList args.toList ds p := hA0
  rw [Try.params12] at hA hval
  obtain ⟨v0, vs0, d0, ds0, p0, q0, hargs, rfl, rfl, h0, r0⟩ := trodAll_cons hA
  obtain ⟨rfl, rfl, rfl⟩ := trodAll_nil r0
  obtain rfl : args = #[v0] := by cases args; simp_all
  obtain ⟨rfl, rfl⟩ := trodVars_none hV
  obtain ⟨a0, len0, cap0, rfl⟩ := okWide_slice Try.underlying44 (hval 0 44 v0 rfl rfl)
  have k0 := h0
  have lt0 : ∀ x ∈ p0, x.block < W.heap.size := by obtain ⟨m, hm⟩ := k0; exact DataW.trod_lt m _ _ _ hm
  obtain ⟨z0, w0⟩ : ∃ zs, IsRow .u8 W a0 len0 cap0 zs := by
    obtain ⟨fuel, hf⟩ := h0
    rcases open_ints Try.underlying44 Try.underlying5 (by kernel_rfl) hf with ⟨hcs, _⟩ | ⟨x, l, c, zs, hcs, _, hl, hm, hz, _, hcell, hwz⟩
    · simp [Value.cells] at hcs
      obtain ⟨rfl, rfl, rfl⟩ := hcs
      exact ⟨[], .inl ⟨rfl, rfl, rfl, rfl⟩⟩
    · simp [Value.cells] at hcs
      obtain ⟨rfl, rfl, rfl⟩ := hcs
      exact ⟨zs, .inr ⟨_, rfl, hl, hm, by simpa using hz, hcell, hwz⟩⟩
  clear hA0 hval0
  refine (walk a0 len0 cap0 z0 W w0).mono fun e W' ⟨he, bel⟩ => ?_
  subst he
  exact ⟨_, rfl, _, _, _, [], _, [], hW', trodAll_mk1 (shut_bool Try.underlying4 _), (trodAll_cons_mk (Below.trod laidOut (by kernel_rfl) (of_decide_eq_true (by kernel_rfl)) k0 bel lt0) trodAll_mk0), rfl, bel.frame _, fun h => by cases h⟩

theorem over : Rows.fnRuinsRow.holds Try.pinned (OpenSpec.ofChange Rows.fnRuinsSpec) :=
  OpenClaim.holds_of_wide 12 Try.f12 rfl rfl rfl rfl rfl rfl rfl ⟨rfl, rfl, rfl, rfl, rfl⟩ rfl rfl rfl rfl rfl (by kernel_rfl) Try.func12 (by kernel_rfl)
    (of_decide_eq_true (by kernel_rfl)) (by unfold Func.isWrapper; first | (rw [if_pos (by decide +kernel)]; kernel_rfl) | (rw [if_neg (by decide +kernel)]; exact ⟨rfl, rfl⟩))
    (fun os started H enc _ => lifted os started H enc)

/-- THE STATEMENT. -/
theorem proved : Rows.FnRuinsSaid := over
#print axioms proved
end Go.Proofs.Ytcdianhemnpmcaa.fnRuins
