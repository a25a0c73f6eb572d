/-
  PROVED: 'FnChops' returns true for every input and leaves its arguments as they were. Conditions: none but the statement's own.
-/
import Derived.Test.YthpgkngkmmameaaFrame
import Derived.Test.YthpgkngkmmameaaArgB
import Derived.Test.YthpgkngkmmameaaMrgFnChops
import Derived.Test.YthpgkngkmmameaaAccept
namespace Go.Proofs.Ythpgkngkmmameaa.fnChops
open Go.ChangeShapes Go.WideShapes Go.ChangeAt Go.RowKit
open Go.ChangeMaps (open_string shut_string)
set_option linter.unusedVariables false

set_option maxRecDepth 20000 in
set_option maxHeartbeats 20000000 in
/-- THE WALK. -/
theorem walk (a0 : Option Addr) (len0 cap0 : Nat) (z0 : List Int) (w : World) (w0 : IsRow .u8 w a0 len0 cap0 z0) :
    Calls Try.prog 6 #[.slice a0 len0 cap0] w fun e w' => e = .returned (.bool true) ∧ Below w.heap.size w w' := by
  have hr := isRow_br w0
  have hl := isRow_len w0
  clear w0
  generalize z0.take len0 = bs at hr hl
  by_cases hbig : 4096 < len0
  · have HB := decide_eq_true hbig
    clear hbig
    go_enter Try.func6, Try.ntmps6
    go_wp2_with fail
    refine (laws_big_c _ _ _ _).mono ?_
    rintro e w' ⟨rfl, rfl⟩
    go_wp2_with fail
    go_ret
    exact ⟨rfl, Below.refl _ _⟩
  have hm : len0 ≤ 1048576 := by omega
  have HB := decide_eq_false hbig
  clear hbig
  have HL := Lib.hid hl
  clear hl
  have b0 := Lib.hid (Below.refl w.heap.size w)
  go_enter Try.func6, Try.ntmps6
  go_wp2_with fail
  refine (laws_big_c _ _ _ _).mono ?_
  rintro e w' ⟨rfl, rfl⟩
  go_wp2_with fail
  refine (spec_DrawChipChop_c a0 len0 cap0 bs _ HL.out hm (hr.below b0.out)).mono ?_
  rintro e w1 ⟨A, n, d, zs, B, m, e, ps, rfl, hD⟩
  have hb1 := hD.below
  have B1 := Lib.hid (below_step b0.out hb1 b0.out.size)
  clear hb1
  have RS := hD.r
  have RP := hD.r'
  go_wp2_with fail
  refine (impl_ChipChop_c A n d zs B m e ps _ hD.l.out hD.n1 RS.out hD.l'.out hD.m1 RP.out).mono ?_
  rintro e w2 ⟨G1, n1, d1, rfl, hl1, hm1, ho1, hb2⟩
  have B2 := Lib.hid (below_step B1.out hb2 B1.out.size)
  replace RS := Lib.hid (RS.out.below hb2)
  replace RP := Lib.hid (RP.out.below hb2)
  clear hb2
  have R1 := Lib.hid ho1.ri
  clear ho1
  go_wp2_with fail
  refine (spec_ChipChop_c A n d zs B m e ps _ hD.l.out hD.n1 RS.out hD.l'.out hD.m1 RP.out).mono ?_
  rintro e w3 ⟨G2, n2, d2, rfl, hl2, hm2, ho2, hb3⟩
  have B3 := Lib.hid (below_step B2.out hb3 B2.out.size)
  replace RS := Lib.hid (RS.out.below hb3)
  replace RP := Lib.hid (RP.out.below hb3)
  replace R1 := Lib.hid (R1.out.below hb3)
  clear hb3
  have R2 := Lib.hid ho2.ri
  clear ho2
  go_wp2_with fail
  refine (impl_EvenChop_c A n d zs B m e ps _ hD.l.out hD.n1 RS.out hD.l'.out hD.m1 RP.out).mono ?_
  rintro e w4 ⟨G3, n3, d3, rfl, hl3, hm3, ho3, hb4⟩
  have B4 := Lib.hid (below_step B3.out hb4 B3.out.size)
  replace RS := Lib.hid (RS.out.below hb4)
  replace RP := Lib.hid (RP.out.below hb4)
  replace R1 := Lib.hid (R1.out.below hb4)
  replace R2 := Lib.hid (R2.out.below hb4)
  clear hb4
  have R3 := Lib.hid ho3.ri
  clear ho3
  go_wp2_with fail
  refine (spec_EvenChop_c A n d zs B m e ps _ hD.l.out hD.n1 RS.out hD.l'.out hD.m1 RP.out).mono ?_
  rintro e w5 ⟨G4, n4, d4, rfl, hl4, hm4, ho4, hb5⟩
  have B5 := Lib.hid (below_step B4.out hb5 B4.out.size)
  replace RS := Lib.hid (RS.out.below hb5)
  replace RP := Lib.hid (RP.out.below hb5)
  replace R1 := Lib.hid (R1.out.below hb5)
  replace R2 := Lib.hid (R2.out.below hb5)
  replace R3 := Lib.hid (R3.out.below hb5)
  clear hb5
  have R4 := Lib.hid ho4.ri
  clear ho4
  go_wp2_with fail
  refine (impl_ModelChop_c A n d zs B m e ps _ hD.l.out hD.n1 RS.out hD.l'.out hD.m1 RP.out hD.md).mono ?_
  rintro e w6 ⟨G5, n5, d5, rfl, hl5, hm5, ho5, hb6⟩
  have B6 := Lib.hid (below_step B5.out hb6 B5.out.size)
  replace RS := Lib.hid (RS.out.below hb6)
  replace RP := Lib.hid (RP.out.below hb6)
  replace R1 := Lib.hid (R1.out.below hb6)
  replace R2 := Lib.hid (R2.out.below hb6)
  replace R3 := Lib.hid (R3.out.below hb6)
  replace R4 := Lib.hid (R4.out.below hb6)
  clear hb6
  have R5 := Lib.hid ho5.ri
  clear ho5
  go_wp2_with fail
  refine (spec_ModelChop_c A n d zs B m e ps _ hD.l.out hD.n1 RS.out hD.l'.out hD.m1 RP.out hD.md).mono ?_
  rintro e w7 ⟨G6, n6, d6, rfl, hl6, hm6, ho6, hb7⟩
  have B7 := Lib.hid (below_step B6.out hb7 B6.out.size)
  replace RS := Lib.hid (RS.out.below hb7)
  replace RP := Lib.hid (RP.out.below hb7)
  replace R1 := Lib.hid (R1.out.below hb7)
  replace R2 := Lib.hid (R2.out.below hb7)
  replace R3 := Lib.hid (R3.out.below hb7)
  replace R4 := Lib.hid (R4.out.below hb7)
  replace R5 := Lib.hid (R5.out.below hb7)
  clear hb7
  have R6 := Lib.hid ho6.ri
  clear ho6
  go_wp2_with fail
  refine (laws_likeInts_c G1 G2 n1 n2 d1 d2 (ccV zs ps) _ hl1.out hl2.out hm1 R1.out R2.out).mono ?_
  rintro e w8 ⟨rfl, hb8⟩
  have B8 := Lib.hid (below_step B7.out hb8 B7.out.size)
  replace RS := Lib.hid (RS.out.below hb8)
  replace RP := Lib.hid (RP.out.below hb8)
  replace R1 := Lib.hid (R1.out.below hb8)
  replace R2 := Lib.hid (R2.out.below hb8)
  replace R3 := Lib.hid (R3.out.below hb8)
  replace R4 := Lib.hid (R4.out.below hb8)
  replace R5 := Lib.hid (R5.out.below hb8)
  replace R6 := Lib.hid (R6.out.below hb8)
  clear hb8
  go_wp2_with fail
  refine (laws_likeInts_c G3 G4 n3 n4 d3 d4 (ecV zs ps) _ hl3.out hl4.out hm3 R3.out R4.out).mono ?_
  rintro e w9 ⟨rfl, hb9⟩
  have B9 := Lib.hid (below_step B8.out hb9 B8.out.size)
  replace RS := Lib.hid (RS.out.below hb9)
  replace RP := Lib.hid (RP.out.below hb9)
  replace R1 := Lib.hid (R1.out.below hb9)
  replace R2 := Lib.hid (R2.out.below hb9)
  replace R3 := Lib.hid (R3.out.below hb9)
  replace R4 := Lib.hid (R4.out.below hb9)
  replace R5 := Lib.hid (R5.out.below hb9)
  replace R6 := Lib.hid (R6.out.below hb9)
  clear hb9
  go_wp2_with fail
  refine (laws_likeInts_c G5 G6 n5 n6 d5 d6 (mcV zs ps) _ hl5.out hl6.out hm5 R5.out R6.out).mono ?_
  rintro e w10 ⟨rfl, hb10⟩
  have B10 := Lib.hid (below_step B9.out hb10 B9.out.size)
  replace RS := Lib.hid (RS.out.below hb10)
  replace RP := Lib.hid (RP.out.below hb10)
  replace R1 := Lib.hid (R1.out.below hb10)
  replace R2 := Lib.hid (R2.out.below hb10)
  replace R3 := Lib.hid (R3.out.below hb10)
  replace R4 := Lib.hid (R4.out.below hb10)
  replace R5 := Lib.hid (R5.out.below hb10)
  replace R6 := Lib.hid (R6.out.below hb10)
  clear hb10
  cases hp : prizesB zs ps
  · have q1 : ecE zs ps = 1 := by simp [ecE, hp]
    rw [q1]
    clear q1 hp
    go_wp2_with fail
    go_ret
    exact ⟨rfl, B10.out⟩
  · have q1 : ecE zs ps = 0 := by simp [ecE, hp]
    obtain ⟨c1, c2, c3, HBC, HBE⟩ := cc_law hp
    have HSC := Lib.hid c2
    have HSE := Lib.hid c3
    have HBP := prizes_small hp
    have HLN := Lib.hid (show n1 = n by have := hl1.out; have := hD.l.out; omega)
    rw [q1]
    clear q1 c1 c2 c3 hp
    by_cases hE : feE zs ps = 0
    · obtain ⟨e1, e2, e3, e4, e5, e6⟩ := mc_law hE
      have HSM := Lib.hid e2
      have HBM := Lib.hid (show ∀ x ∈ mcV zs ps, -4000000000 ≤ x ∧ x ≤ 4000000000 from fun x hx => by have := e3 x hx; omega)
      obtain ⟨F, hF⟩ : ∃ F, iaV zs ps (mcV zs ps) = F := ⟨_, rfl⟩
      obtain ⟨E, hE2⟩ : ∃ E, dwE zs ps (mcV zs ps) = E := ⟨_, rfl⟩
      rw [hE2] at e5 e6
      rw [hF] at e6
      have HF := Lib.hid hF
      have HE2 := Lib.hid hE2
      rw [hE]
      clear e1 e2 e3 e4 hE hF hE2
      go_wp2_with fail
      refine (impl_IsAcceptable_c A n d zs B m e ps G5 n5 d5 (mcV zs ps) _ hD.l.out hD.n1 RS.out hD.l'.out hD.m1 RP.out hl5.out hm5 R5.out hD.md).mono ?_
      rintro e' w11 ⟨rfl, hb11⟩
      rw [HF.out, HE2.out]
      have B11 := Lib.hid (below_step B10.out hb11 B10.out.size)
      replace RP := Lib.hid (RP.out.below hb11)
      replace R1 := Lib.hid (R1.out.below hb11)
      replace R3 := Lib.hid (R3.out.below hb11)
      replace R5 := Lib.hid (R5.out.below hb11)
      clear hb11
      rcases e5 with rfl | rfl
      · obtain rfl := e6 rfl
        clear e6
        go_wp2_with (go_at_call 32; first
          | ((with_reducible refine (laws_sum_c _ _ _ (ccV zs ps) _ hl1.out hm1 R1.out HBC).mono ?_); rintro e w' ⟨rfl, rfl⟩; rw [HSC.out])
          | ((with_reducible refine (laws_sum_c _ _ _ (ecV zs ps) _ hl3.out hm3 R3.out HBE).mono ?_); rintro e w' ⟨rfl, rfl⟩; rw [HSE.out])
          | ((with_reducible refine (laws_sum_c _ _ _ (mcV zs ps) _ hl5.out hm5 R5.out HBM).mono ?_); rintro e w' ⟨rfl, rfl⟩; rw [HSM.out])
          | ((with_reducible refine (laws_sum_c _ _ _ ps _ hD.l'.out hD.m1 RP.out HBP).mono ?_); rintro e w' ⟨rfl, rfl⟩))
        go_ret
        exact ⟨ret_bool (by simp [HLN.out]), B11.out⟩
      · clear e6
        go_wp2_with (go_at_call 32; first
          | ((with_reducible refine (laws_sum_c _ _ _ (ccV zs ps) _ hl1.out hm1 R1.out HBC).mono ?_); rintro e w' ⟨rfl, rfl⟩; rw [HSC.out])
          | ((with_reducible refine (laws_sum_c _ _ _ (ecV zs ps) _ hl3.out hm3 R3.out HBE).mono ?_); rintro e w' ⟨rfl, rfl⟩; rw [HSE.out])
          | ((with_reducible refine (laws_sum_c _ _ _ (mcV zs ps) _ hl5.out hm5 R5.out HBM).mono ?_); rintro e w' ⟨rfl, rfl⟩; rw [HSM.out])
          | ((with_reducible refine (laws_sum_c _ _ _ ps _ hD.l'.out hD.m1 RP.out HBP).mono ?_); rintro e w' ⟨rfl, rfl⟩))
        go_ret
        exact ⟨ret_bool (by simp [HLN.out]), B11.out⟩
    · have z1 : (feE zs ps == 0) = false := by simp [hE]
      obtain ⟨E, hE2⟩ : ∃ E, feE zs ps = E := ⟨_, rfl⟩
      rw [hE2] at z1 hE
      rw [hE2]
      clear hE2
      go_wp2_with (go_at_call 32; first
        | ((with_reducible refine (laws_sum_c _ _ _ (ccV zs ps) _ hl1.out hm1 R1.out HBC).mono ?_); rintro e w' ⟨rfl, rfl⟩; rw [HSC.out])
        | ((with_reducible refine (laws_sum_c _ _ _ (ecV zs ps) _ hl3.out hm3 R3.out HBE).mono ?_); rintro e w' ⟨rfl, rfl⟩; rw [HSE.out])
        | ((with_reducible refine (laws_sum_c _ _ _ ps _ hD.l'.out hD.m1 RP.out HBP).mono ?_); rintro e w' ⟨rfl, rfl⟩))
      go_ret
      exact ⟨ret_bool (by simp [HLN.out]), B10.out⟩

set_option maxRecDepth 100000 in
theorem lifted (os : Os) (started : os.Started) (H : Type) (enc : TypeId × Value → H) :
    ReturnsInHanded {} Try.checked os 6 .any (Rows.fnChopsSpec.pre6 enc Try.prog Try.f6 Rows.fnChopsRow.domain false) (Rows.fnChopsSpec.post enc Try.prog Try.f6 false true false false) := by
  refine returnsInHanded_of_change (C := Try.checked) own started (by kernel_rfl) Try.func6
    (ChangeSpec.witness6 (enc := enc) (C := Try.checked) false ⟨#[], #[.slice none 0 0], []⟩ 8 (by kernel_rfl) (by kernel_rfl) (by kernel_rfl) (by kernel_rfl)) ?_
  intro W base args ds gs before hval0 hW hcnd _
  have hval : ∀ (j : Nat) t v, Try.f6.params[j]? = some t → args[j]? = some v → Value.okWide Try.prog W .any base t v := hval0
  have hW' := hW
  obtain ⟨p, q, hA0, hV, rfl, hfz, hnd⟩ := hW
  have hA : DataW.TrodAll enc Try.prog W 0 (fun _ => true) true Try.f6.params.toList args.toList ds p := hA0
  rw [Try.params6] at hA hval
  obtain ⟨v0, vs0, d0, ds0, p0, q0, hargs, rfl, rfl, h0, r0⟩ := trodAll_cons hA
  obtain ⟨rfl, rfl, rfl⟩ := trodAll_nil r0
  obtain rfl : args = #[v0] := by cases args; simp_all
  obtain ⟨rfl, rfl⟩ := trodVars_none hV
  obtain ⟨a0, len0, cap0, rfl⟩ := okWide_slice Try.underlying31 (hval 0 31 v0 rfl rfl)
  have k0 := h0
  have lt0 : ∀ x ∈ p0, x.block < W.heap.size := by obtain ⟨m, hm⟩ := k0; exact DataW.trod_lt m _ _ _ hm
  obtain ⟨z0, w0⟩ : ∃ zs, IsRow .u8 W a0 len0 cap0 zs := by
    obtain ⟨fuel, hf⟩ := h0
    rcases open_ints Try.underlying31 Try.underlying5 (by kernel_rfl) hf with ⟨hcs, _⟩ | ⟨x, l, c, zs, hcs, _, hl, hm, hz, _, hcell, hwz⟩
    · simp [Value.cells] at hcs
      obtain ⟨rfl, rfl, rfl⟩ := hcs
      exact ⟨[], .inl ⟨rfl, rfl, rfl, rfl⟩⟩
    · simp [Value.cells] at hcs
      obtain ⟨rfl, rfl, rfl⟩ := hcs
      exact ⟨zs, .inr ⟨_, rfl, hl, hm, by simpa using hz, hcell, hwz⟩⟩
  clear hA0 hval0
  refine (walk a0 len0 cap0 z0 W w0).mono fun e W' ⟨he, bel⟩ => ?_
  subst he
  exact ⟨_, rfl, _, _, _, [], _, [], hW', trodAll_mk1 (shut_bool Try.underlying4 _), (trodAll_cons_mk (Below.trod laidOut (by kernel_rfl) (of_decide_eq_true (by kernel_rfl)) k0 bel lt0) trodAll_mk0), rfl, bel.frame _, fun h => by cases h⟩

theorem over : Rows.fnChopsRow.holds Try.pinned (OpenSpec.ofChange Rows.fnChopsSpec) :=
  OpenClaim.holds_of_wide 6 Try.f6 rfl rfl rfl rfl rfl rfl rfl ⟨rfl, rfl, rfl, rfl, rfl⟩ rfl rfl rfl rfl rfl (by kernel_rfl) Try.func6 (by kernel_rfl)
    (of_decide_eq_true (by kernel_rfl)) (by unfold Func.isWrapper; first | (rw [if_pos (by decide +kernel)]; kernel_rfl) | (rw [if_neg (by decide +kernel)]; exact ⟨rfl, rfl⟩))
    (fun os started H enc _ => lifted os started H enc)

/-- THE STATEMENT. -/
theorem proved : Rows.FnChopsSaid := over
#print axioms proved
end Go.Proofs.Ythpgkngkmmameaa.fnChops
