/-
  PROVED: 'FnCodes' returns true for every input and leaves its arguments as they were. Conditions: none but the statement's own.
-/
import Derived.Test.YtiglekmlkklofaaFrame
import Derived.Test.YtiglekmlkklofaaArgB
import Derived.Test.YtiglekmlkklofaaCodes
import Derived.Test.YtiglekmlkklofaaDrawCrypt
namespace Go.Proofs.Ytiglekmlkklofaa.fnCodes
open Go.ChangeShapes Go.WideShapes Go.ChangeAt Go.RowKit
open Go.ChangeMaps (open_string shut_string)
set_option linter.unusedVariables false

/-- THE WALK. -/
theorem walk (a0 : Option Addr) (len0 cap0 : Nat) (z0 : List Int) (w : World) (w0 : IsRow .u8 w a0 len0 cap0 z0) :
    Calls Try.prog 14 #[.slice a0 len0 cap0] w fun e w' => e = .returned (.bool true) ∧ Below w.heap.size w w' := by
  have hr := isRow_br w0
  have hl := isRow_len w0
  clear w0
  generalize z0.take len0 = bs at hr hl
  by_cases hbig : 4096 < len0
  · have HB := decide_eq_true hbig
    clear hbig
    go_enter Try.func14, Try.ntmps14
    go_wp2_with fail
    refine (laws_big_c _ _ _ _).mono ?_
    rintro e w' ⟨rfl, rfl⟩
    go_wp2_with fail
    go_ret
    exact ⟨rfl, Below.refl _ _⟩
  have hm : len0 ≤ 1048576 := by omega
  have HB := decide_eq_false hbig
  clear hbig
  have HL := Lib.hid hl
  clear hl
  have b0 : Below w.heap.size w w := Below.refl _ _
  go_enter Try.func14, Try.ntmps14
  go_wp2_with fail
  refine (laws_big_c _ _ _ _).mono ?_
  rintro e w' ⟨rfl, rfl⟩
  go_wp2_with (first | (go_at_call 18; refine (impl_CodeOf_c _ _).mono ?_; rintro e w' ⟨rfl, rfl⟩) | (go_at_call 17; refine (spec_CodeOf_c _ _).mono ?_; rintro e w' ⟨rfl, rfl⟩) | (go_at_call 24; refine (impl_CardOfCode_c _ _).mono ?_; rintro e w' ⟨rfl, rfl⟩) | (go_at_call 23; refine (spec_CardOfCode_c _ _).mono ?_; rintro e w' ⟨rfl, rfl⟩) | (go_at_call 30; refine (impl_OpenElement_c _ _ _ _).mono ?_; rintro e w' ⟨rfl, rfl⟩) | (go_at_call 29; refine (spec_OpenElement_c _ _ _ _).mono ?_; rintro e w' ⟨rfl, rfl⟩) | (go_at_call 26; refine (impl_CommitTo_c _ _ _).mono ?_; rintro e w' ⟨rfl, rfl⟩) | (go_at_call 25; refine (spec_CommitTo_c _ _ _).mono ?_; rintro e w' ⟨rfl, rfl⟩) | (go_at_call 20; refine (impl_IsSquare_c _ _).mono ?_; rintro e w' ⟨rfl, rfl⟩))
  refine (spec_DrawCodeOf_c a0 len0 cap0 bs w HL.out hm (hr.below b0)).mono ?_
  rintro e w1 ⟨c, rfl, c0, c1, hb1⟩
  have b1 := b0.trans (hb1.mono b0.size)
  go_wp2_with (first | (go_at_call 18; refine (impl_CodeOf_c _ _).mono ?_; rintro e w' ⟨rfl, rfl⟩) | (go_at_call 17; refine (spec_CodeOf_c _ _).mono ?_; rintro e w' ⟨rfl, rfl⟩) | (go_at_call 24; refine (impl_CardOfCode_c _ _).mono ?_; rintro e w' ⟨rfl, rfl⟩) | (go_at_call 23; refine (spec_CardOfCode_c _ _).mono ?_; rintro e w' ⟨rfl, rfl⟩) | (go_at_call 30; refine (impl_OpenElement_c _ _ _ _).mono ?_; rintro e w' ⟨rfl, rfl⟩) | (go_at_call 29; refine (spec_OpenElement_c _ _ _ _).mono ?_; rintro e w' ⟨rfl, rfl⟩) | (go_at_call 26; refine (impl_CommitTo_c _ _ _).mono ?_; rintro e w' ⟨rfl, rfl⟩) | (go_at_call 25; refine (spec_CommitTo_c _ _ _).mono ?_; rintro e w' ⟨rfl, rfl⟩) | (go_at_call 20; refine (impl_IsSquare_c _ _).mono ?_; rintro e w' ⟨rfl, rfl⟩))
  refine (spec_DrawCardOfCode_c a0 len0 cap0 bs w1 HL.out hm (hr.below b1)).mono ?_
  rintro e w2 ⟨n, rfl, n0, n1, hb2⟩
  have b2 := b1.trans (hb2.mono b1.size)
  go_wp2_with (first | (go_at_call 18; refine (impl_CodeOf_c _ _).mono ?_; rintro e w' ⟨rfl, rfl⟩) | (go_at_call 17; refine (spec_CodeOf_c _ _).mono ?_; rintro e w' ⟨rfl, rfl⟩) | (go_at_call 24; refine (impl_CardOfCode_c _ _).mono ?_; rintro e w' ⟨rfl, rfl⟩) | (go_at_call 23; refine (spec_CardOfCode_c _ _).mono ?_; rintro e w' ⟨rfl, rfl⟩) | (go_at_call 30; refine (impl_OpenElement_c _ _ _ _).mono ?_; rintro e w' ⟨rfl, rfl⟩) | (go_at_call 29; refine (spec_OpenElement_c _ _ _ _).mono ?_; rintro e w' ⟨rfl, rfl⟩) | (go_at_call 26; refine (impl_CommitTo_c _ _ _).mono ?_; rintro e w' ⟨rfl, rfl⟩) | (go_at_call 25; refine (spec_CommitTo_c _ _ _).mono ?_; rintro e w' ⟨rfl, rfl⟩) | (go_at_call 20; refine (impl_IsSquare_c _ _).mono ?_; rintro e w' ⟨rfl, rfl⟩))
  refine (spec_DrawOpenElement_c a0 len0 cap0 bs w2 HL.out hm (hr.below b2)).mono ?_
  rintro e w3 ⟨x, a, b, rfl, hb3⟩
  have b3 := b2.trans (hb3.mono b2.size)
  go_wp2_with (first | (go_at_call 18; refine (impl_CodeOf_c _ _).mono ?_; rintro e w' ⟨rfl, rfl⟩) | (go_at_call 17; refine (spec_CodeOf_c _ _).mono ?_; rintro e w' ⟨rfl, rfl⟩) | (go_at_call 24; refine (impl_CardOfCode_c _ _).mono ?_; rintro e w' ⟨rfl, rfl⟩) | (go_at_call 23; refine (spec_CardOfCode_c _ _).mono ?_; rintro e w' ⟨rfl, rfl⟩) | (go_at_call 30; refine (impl_OpenElement_c _ _ _ _).mono ?_; rintro e w' ⟨rfl, rfl⟩) | (go_at_call 29; refine (spec_OpenElement_c _ _ _ _).mono ?_; rintro e w' ⟨rfl, rfl⟩) | (go_at_call 26; refine (impl_CommitTo_c _ _ _).mono ?_; rintro e w' ⟨rfl, rfl⟩) | (go_at_call 25; refine (spec_CommitTo_c _ _ _).mono ?_; rintro e w' ⟨rfl, rfl⟩) | (go_at_call 20; refine (impl_IsSquare_c _ _).mono ?_; rintro e w' ⟨rfl, rfl⟩))
  refine (spec_DrawCommitTo_c a0 len0 cap0 bs w3 HL.out hm (hr.below b3)).mono ?_
  rintro e w4 ⟨m, r, rfl, hb4⟩
  have b4 := b3.trans (hb4.mono b3.size)
  by_cases hc : inB c 0 51 = true
  · obtain ⟨k1, k2, k3, k4, k5⟩ := code_back hc
    clear hc
    by_cases hq : inB m 0 1018 = true ∧ inB r 0 1018 = true
    · obtain ⟨q1, q2⟩ := com_square hq.1 hq.2
      clear hq
      go_wp2_with (first | (go_at_call 18; refine (impl_CodeOf_c _ _).mono ?_; rintro e w' ⟨rfl, rfl⟩) | (go_at_call 17; refine (spec_CodeOf_c _ _).mono ?_; rintro e w' ⟨rfl, rfl⟩) | (go_at_call 24; refine (impl_CardOfCode_c _ _).mono ?_; rintro e w' ⟨rfl, rfl⟩) | (go_at_call 23; refine (spec_CardOfCode_c _ _).mono ?_; rintro e w' ⟨rfl, rfl⟩) | (go_at_call 30; refine (impl_OpenElement_c _ _ _ _).mono ?_; rintro e w' ⟨rfl, rfl⟩) | (go_at_call 29; refine (spec_OpenElement_c _ _ _ _).mono ?_; rintro e w' ⟨rfl, rfl⟩) | (go_at_call 26; refine (impl_CommitTo_c _ _ _).mono ?_; rintro e w' ⟨rfl, rfl⟩) | (go_at_call 25; refine (spec_CommitTo_c _ _ _).mono ?_; rintro e w' ⟨rfl, rfl⟩) | (go_at_call 20; refine (impl_IsSquare_c _ _).mono ?_; rintro e w' ⟨rfl, rfl⟩))
      go_ret
      exact ⟨rfl, b4⟩
    · have q1 := com_not hq
      clear hq
      go_wp2_with (first | (go_at_call 18; refine (impl_CodeOf_c _ _).mono ?_; rintro e w' ⟨rfl, rfl⟩) | (go_at_call 17; refine (spec_CodeOf_c _ _).mono ?_; rintro e w' ⟨rfl, rfl⟩) | (go_at_call 24; refine (impl_CardOfCode_c _ _).mono ?_; rintro e w' ⟨rfl, rfl⟩) | (go_at_call 23; refine (spec_CardOfCode_c _ _).mono ?_; rintro e w' ⟨rfl, rfl⟩) | (go_at_call 30; refine (impl_OpenElement_c _ _ _ _).mono ?_; rintro e w' ⟨rfl, rfl⟩) | (go_at_call 29; refine (spec_OpenElement_c _ _ _ _).mono ?_; rintro e w' ⟨rfl, rfl⟩) | (go_at_call 26; refine (impl_CommitTo_c _ _ _).mono ?_; rintro e w' ⟨rfl, rfl⟩) | (go_at_call 25; refine (spec_CommitTo_c _ _ _).mono ?_; rintro e w' ⟨rfl, rfl⟩) | (go_at_call 20; refine (impl_IsSquare_c _ _).mono ?_; rintro e w' ⟨rfl, rfl⟩))
      go_ret
      exact ⟨rfl, b4⟩
  · have k2 := code_not (Bool.eq_false_iff.2 hc)
    clear hc
    by_cases hq : inB m 0 1018 = true ∧ inB r 0 1018 = true
    · obtain ⟨q1, q2⟩ := com_square hq.1 hq.2
      clear hq
      go_wp2_with (first | (go_at_call 18; refine (impl_CodeOf_c _ _).mono ?_; rintro e w' ⟨rfl, rfl⟩) | (go_at_call 17; refine (spec_CodeOf_c _ _).mono ?_; rintro e w' ⟨rfl, rfl⟩) | (go_at_call 24; refine (impl_CardOfCode_c _ _).mono ?_; rintro e w' ⟨rfl, rfl⟩) | (go_at_call 23; refine (spec_CardOfCode_c _ _).mono ?_; rintro e w' ⟨rfl, rfl⟩) | (go_at_call 30; refine (impl_OpenElement_c _ _ _ _).mono ?_; rintro e w' ⟨rfl, rfl⟩) | (go_at_call 29; refine (spec_OpenElement_c _ _ _ _).mono ?_; rintro e w' ⟨rfl, rfl⟩) | (go_at_call 26; refine (impl_CommitTo_c _ _ _).mono ?_; rintro e w' ⟨rfl, rfl⟩) | (go_at_call 25; refine (spec_CommitTo_c _ _ _).mono ?_; rintro e w' ⟨rfl, rfl⟩) | (go_at_call 20; refine (impl_IsSquare_c _ _).mono ?_; rintro e w' ⟨rfl, rfl⟩))
      go_ret
      exact ⟨rfl, b4⟩
    · have q1 := com_not hq
      clear hq
      go_wp2_with (first | (go_at_call 18; refine (impl_CodeOf_c _ _).mono ?_; rintro e w' ⟨rfl, rfl⟩) | (go_at_call 17; refine (spec_CodeOf_c _ _).mono ?_; rintro e w' ⟨rfl, rfl⟩) | (go_at_call 24; refine (impl_CardOfCode_c _ _).mono ?_; rintro e w' ⟨rfl, rfl⟩) | (go_at_call 23; refine (spec_CardOfCode_c _ _).mono ?_; rintro e w' ⟨rfl, rfl⟩) | (go_at_call 30; refine (impl_OpenElement_c _ _ _ _).mono ?_; rintro e w' ⟨rfl, rfl⟩) | (go_at_call 29; refine (spec_OpenElement_c _ _ _ _).mono ?_; rintro e w' ⟨rfl, rfl⟩) | (go_at_call 26; refine (impl_CommitTo_c _ _ _).mono ?_; rintro e w' ⟨rfl, rfl⟩) | (go_at_call 25; refine (spec_CommitTo_c _ _ _).mono ?_; rintro e w' ⟨rfl, rfl⟩) | (go_at_call 20; refine (impl_IsSquare_c _ _).mono ?_; rintro e w' ⟨rfl, rfl⟩))
      go_ret
      exact ⟨rfl, b4⟩

set_option maxRecDepth 100000 in
theorem lifted (os : Os) (started : os.Started) (H : Type) (enc : TypeId × Value → H) :
    ReturnsInHanded {} Try.checked os 14 .any (Rows.fnCodesSpec.pre6 enc Try.prog Try.f14 Rows.fnCodesRow.domain false) (Rows.fnCodesSpec.post enc Try.prog Try.f14 false true false false) := by
  refine returnsInHanded_of_change (C := Try.checked) own started (by kernel_rfl) Try.func14
    (ChangeSpec.witness6 (enc := enc) (C := Try.checked) false ⟨#[], #[.slice none 0 0], []⟩ 8 (by kernel_rfl) (by kernel_rfl) (by kernel_rfl) (by kernel_rfl)) ?_
  intro W base args ds gs before hval0 hW hcnd _
  have hval : ∀ (j : Nat) t v, Try.f14.params[j]? = some t → args[j]? = some v → Value.okWide Try.prog W .any base t v := hval0
  have hW' := hW
  obtain ⟨p, q, hA0, hV, rfl, hfz, hnd⟩ := hW
  have hA : DataW.TrodAll enc Try.prog W 0 (fun _ => true) true Try.f14.params.toList args.toList ds p := hA0
  rw [Try.params14] at hA hval
  obtain ⟨v0, vs0, d0, ds0, p0, q0, hargs, rfl, rfl, h0, r0⟩ := trodAll_cons hA
  obtain ⟨rfl, rfl, rfl⟩ := trodAll_nil r0
  obtain rfl : args = #[v0] := by cases args; simp_all
  obtain ⟨rfl, rfl⟩ := trodVars_none hV
  obtain ⟨a0, len0, cap0, rfl⟩ := okWide_slice Try.underlying43 (hval 0 43 v0 rfl rfl)
  have k0 := h0
  have lt0 : ∀ x ∈ p0, x.block < W.heap.size := by obtain ⟨m, hm⟩ := k0; exact DataW.trod_lt m _ _ _ hm
  obtain ⟨z0, w0⟩ : ∃ zs, IsRow .u8 W a0 len0 cap0 zs := by
    obtain ⟨fuel, hf⟩ := h0
    rcases open_ints Try.underlying43 Try.underlying5 (by kernel_rfl) hf with ⟨hcs, _⟩ | ⟨x, l, c, zs, hcs, _, hl, hm, hz, _, hcell, hwz⟩
    · simp [Value.cells] at hcs
      obtain ⟨rfl, rfl, rfl⟩ := hcs
      exact ⟨[], .inl ⟨rfl, rfl, rfl, rfl⟩⟩
    · simp [Value.cells] at hcs
      obtain ⟨rfl, rfl, rfl⟩ := hcs
      exact ⟨zs, .inr ⟨_, rfl, hl, hm, by simpa using hz, hcell, hwz⟩⟩
  clear hA0 hval0
  refine (walk a0 len0 cap0 z0 W w0).mono fun e W' ⟨he, bel⟩ => ?_
  subst he
  exact ⟨_, rfl, _, _, _, [], _, [], hW', trodAll_mk1 (shut_bool Try.underlying4 _), (trodAll_cons_mk (Below.trod laidOut (by kernel_rfl) (of_decide_eq_true (by kernel_rfl)) k0 bel lt0) trodAll_mk0), rfl, bel.frame _, fun h => by cases h⟩

theorem over : Rows.fnCodesRow.holds Try.pinned (OpenSpec.ofChange Rows.fnCodesSpec) :=
  OpenClaim.holds_of_wide 14 Try.f14 rfl rfl rfl rfl rfl rfl rfl ⟨rfl, rfl, rfl, rfl, rfl⟩ rfl rfl rfl rfl rfl (by kernel_rfl) Try.func14 (by kernel_rfl)
    (of_decide_eq_true (by kernel_rfl)) (by unfold Func.isWrapper; first | (rw [if_pos (by decide +kernel)]; kernel_rfl) | (rw [if_neg (by decide +kernel)]; exact ⟨rfl, rfl⟩))
    (fun os started H enc _ => lifted os started H enc)

/-- THE STATEMENT. -/
theorem proved : Rows.FnCodesSaid := over
#print axioms proved
end Go.Proofs.Ytiglekmlkklofaa.fnCodes
