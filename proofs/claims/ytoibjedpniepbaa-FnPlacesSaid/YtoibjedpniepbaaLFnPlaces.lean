/-
  PROVED: 'FnPlaces' returns true for every input and leaves its arguments as they were. Conditions: none but the statement's own.
-/
import Derived.Test.YtoibjedpniepbaaFrame
import Derived.Test.YtoibjedpniepbaaArgB
import Derived.Test.YtoibjedpniepbaaIcmPlace
import Derived.Test.YtoibjedpniepbaaIcmChip
import Derived.Test.YtoibjedpniepbaaDrawIcm
namespace Go.Proofs.Ytoibjedpniepbaa.fnPlaces
open Go.ChangeShapes Go.WideShapes Go.ChangeAt Go.RowKit
open Go.ChangeMaps (open_string shut_string)
set_option linter.unusedVariables false

set_option maxRecDepth 20000 in
set_option maxHeartbeats 4000000 in
/-- THE WALK. -/
theorem walk (a0 : Option Addr) (len0 cap0 : Nat) (z0 : List Int) (w : World) (w0 : IsRow .u8 w a0 len0 cap0 z0) :
    Calls Try.prog 11 #[.slice a0 len0 cap0] w fun e w' => e = .returned (.bool true) ∧ Below w.heap.size w w' := by
  have hr := isRow_br w0
  have hl := isRow_len w0
  clear w0
  generalize z0.take len0 = bs at hr hl
  by_cases hbig : 4096 < len0
  · have HB := decide_eq_true hbig
    clear hbig
    go_enter Try.func11, Try.ntmps11
    go_wp2_with fail
    refine (laws_big_c _ _ _ _).mono ?_
    rintro e w' ⟨rfl, rfl⟩
    go_wp2_with fail
    go_ret
    exact ⟨rfl, Below.refl _ _⟩
  have hm : len0 ≤ 1048576 := by omega
  have HB := decide_eq_false hbig
  clear hbig
  have HL := Lib.hid hl
  clear hl
  have b0 := Lib.hid (Below.refl w.heap.size w)
  go_enter Try.func11, Try.ntmps11
  go_wp2_with fail
  refine (laws_big_c _ _ _ _).mono ?_
  rintro e w' ⟨rfl, rfl⟩
  go_wp2_with fail
  refine (spec_DrawPlaceOdds_c a0 len0 cap0 bs _ HL.out hm (hr.below b0.out)).mono ?_
  rintro e w1 ⟨A, n, d, zs, i, j, rfl, hzl, hzm, hri, hb1⟩
  have B1 := Lib.hid (below_step b0.out hb1 b0.out.size)
  clear hb1
  have R := hri
  clear hri
  go_wp2_with fail
  refine (impl_PlaceOdds_c A n d zs i j _ hzl.out hzm R.out).mono ?_
  rintro e w2 ⟨rfl, hb2⟩
  have B2 := Lib.hid (below_step B1.out hb2 B1.out.size)
  replace R := Lib.hid (R.out.below hb2)
  clear hb2
  replace R := Lib.hid (R.out.alloc (.cells #[.int .i64 (poN zs i j), .int .i64 (poD zs i j)] 31 (0, 0)))
  have T1 := Lib.hid (R2.new w2 (poN zs i j) (poD zs i j))
  have C2 := Lib.hid (B2.out.alloc B2.out.size (.cells #[.int .i64 (poN zs i j), .int .i64 (poD zs i j)] 31 (0, 0)))
  go_wp2_with fail
  refine (spec_PlaceOdds_c A n d zs i j _ hzl.out hzm R.out).mono ?_
  rintro e w3 ⟨rfl, hb3⟩
  have B3 := Lib.hid (below_step C2.out hb3 C2.out.size)
  replace R := Lib.hid (R.out.below hb3)
  replace T1 := Lib.hid (T1.out.below hb3)
  clear hb3
  replace R := Lib.hid (R.out.alloc (.cells #[.int .i64 (poN zs i j), .int .i64 (poD zs i j)] 31 (0, 0)))
  replace T1 := Lib.hid (T1.out.alloc (.cells #[.int .i64 (poN zs i j), .int .i64 (poD zs i j)] 31 (0, 0)))
  have T2 := Lib.hid (R2.new w3 (poN zs i j) (poD zs i j))
  have C3 := Lib.hid (B3.out.alloc B3.out.size (.cells #[.int .i64 (poN zs i j), .int .i64 (poD zs i j)] 31 (0, 0)))
  go_wp2_with fail
  refine (spec_DrawChipValue_c a0 len0 cap0 bs _ HL.out hm (hr.below C3.out)).mono ?_
  rintro e w4 ⟨A3, n3, d3, ss, B3', m3, e3, ps, p, rfl, hD⟩
  have hb4 := hD.below
  have B4 := Lib.hid (below_step C3.out hb4 C3.out.size)
  replace R := Lib.hid (R.out.below hb4)
  replace T1 := Lib.hid (T1.out.below hb4)
  replace T2 := Lib.hid (T2.out.below hb4)
  clear hb4
  have RS := hD.r
  have RP := hD.r'
  go_wp2_with fail
  refine (impl_ChipValue_c A3 n3 d3 ss B3' m3 e3 ps p _ hD.l.out hD.n1 RS.out hD.l'.out hD.m1 RP.out hD.md).mono ?_
  rintro e w5 ⟨rfl, hb5⟩
  have B5 := Lib.hid (below_step B4.out hb5 B4.out.size)
  replace R := Lib.hid (R.out.below hb5)
  replace T1 := Lib.hid (T1.out.below hb5)
  replace T2 := Lib.hid (T2.out.below hb5)
  replace RS := Lib.hid (RS.out.below hb5)
  replace RP := Lib.hid (RP.out.below hb5)
  clear hb5
  replace R := Lib.hid (R.out.alloc (.cells #[.int .i64 (cvN ss ps p), .int .i64 (cvD ss ps p)] 31 (0, 0)))
  replace T1 := Lib.hid (T1.out.alloc (.cells #[.int .i64 (cvN ss ps p), .int .i64 (cvD ss ps p)] 31 (0, 0)))
  replace T2 := Lib.hid (T2.out.alloc (.cells #[.int .i64 (cvN ss ps p), .int .i64 (cvD ss ps p)] 31 (0, 0)))
  replace RS := Lib.hid (RS.out.alloc (.cells #[.int .i64 (cvN ss ps p), .int .i64 (cvD ss ps p)] 31 (0, 0)))
  replace RP := Lib.hid (RP.out.alloc (.cells #[.int .i64 (cvN ss ps p), .int .i64 (cvD ss ps p)] 31 (0, 0)))
  have T3 := Lib.hid (R2.new w5 (cvN ss ps p) (cvD ss ps p))
  have C5 := Lib.hid (B5.out.alloc B5.out.size (.cells #[.int .i64 (cvN ss ps p), .int .i64 (cvD ss ps p)] 31 (0, 0)))
  go_wp2_with fail
  refine (spec_ChipValue_c A3 n3 d3 ss B3' m3 e3 ps p _ hD.l.out hD.n1 RS.out hD.l'.out hD.m1 RP.out hD.md).mono ?_
  rintro e w6 ⟨rfl, hb6⟩
  have B6 := Lib.hid (below_step C5.out hb6 C5.out.size)
  replace R := Lib.hid (R.out.below hb6)
  replace T1 := Lib.hid (T1.out.below hb6)
  replace T2 := Lib.hid (T2.out.below hb6)
  replace RS := Lib.hid (RS.out.below hb6)
  replace RP := Lib.hid (RP.out.below hb6)
  replace T3 := Lib.hid (T3.out.below hb6)
  clear hb6
  replace R := Lib.hid (R.out.alloc (.cells #[.int .i64 (cvN ss ps p), .int .i64 (cvD ss ps p)] 31 (0, 0)))
  replace T1 := Lib.hid (T1.out.alloc (.cells #[.int .i64 (cvN ss ps p), .int .i64 (cvD ss ps p)] 31 (0, 0)))
  replace T2 := Lib.hid (T2.out.alloc (.cells #[.int .i64 (cvN ss ps p), .int .i64 (cvD ss ps p)] 31 (0, 0)))
  replace RS := Lib.hid (RS.out.alloc (.cells #[.int .i64 (cvN ss ps p), .int .i64 (cvD ss ps p)] 31 (0, 0)))
  replace RP := Lib.hid (RP.out.alloc (.cells #[.int .i64 (cvN ss ps p), .int .i64 (cvD ss ps p)] 31 (0, 0)))
  replace T3 := Lib.hid (T3.out.alloc (.cells #[.int .i64 (cvN ss ps p), .int .i64 (cvD ss ps p)] 31 (0, 0)))
  have T4 := Lib.hid (R2.new w6 (cvN ss ps p) (cvD ss ps p))
  have C6 := Lib.hid (B6.out.alloc B6.out.size (.cells #[.int .i64 (cvN ss ps p), .int .i64 (cvD ss ps p)] 31 (0, 0)))
  obtain ⟨T1a, T1b, -, -⟩ := T1.out.cells
  have T1z := T1.out.lt
  obtain ⟨T2a, T2b, -, -⟩ := T2.out.cells
  have T2z := T2.out.lt
  obtain ⟨T3a, T3b, -, -⟩ := T3.out.cells
  have T3z := T3.out.lt
  obtain ⟨T4a, T4b, -, -⟩ := T4.out.cells
  have T4z := T4.out.lt
  by_cases hE : poE zs i j = 0
  · have hB0 : poB zs i j = 0 := by
      by_cases h : poB zs i j = 0
      · exact h
      · unfold poE at hE; rw [if_neg h] at hE; exact absurd hE h
    obtain ⟨hF, hi1, -, i', j', hii, -, -, hok⟩ := po_ok hB0
    subst hii
    have hS : posL zs := fun x hx => by have := (fieldB_iff.1 hF).2.2 x hx; omega
    have HP : Hid (∀ k : Nat, k < n → poN zs i' k = icN (icm (unitL k) zs i') ∧ poD zs i' k = icD (icm (unitL k) zs i') ∧ poE zs i' k = icE (icm (unitL k) zs i')) := Lib.hid (fun k hk => by
      have h : poB zs i' k = 0 := by
        unfold poB
        rw [if_pos hF, if_pos ⟨hi1, inB_iff.2 ⟨by omega, by have := hzl.out; omega⟩⟩]
      unfold poN poD poE
      rw [if_pos h, if_pos h, if_pos h]
      exact ⟨rfl, rfl, rfl⟩)
    have HI := Lib.hid hok.i
    have HS := Lib.hid hS
    have HE := Lib.hid hE
    have n5 : n ≤ 5 := by have := hok.n; have := hzl.out; omega
    clear hE hB0 hF hi1 hok hS
    rw [HE.out]
    go_wp2_with fail
    obtain ⟨w7, hw7⟩ : ∃ w7 : World, w7 = (w6.alloc (.cells #[.int .i64 (cvN ss ps p), .int .i64 (cvD ss ps p)] 31 (0, 0))) := ⟨_, rfl⟩
    rw [← hw7] at T1 T2 T3 T4 R RS RP C6
    rw [← hw7]
    obtain ⟨gt, hgt⟩ : ∃ gt : Nat, gt = w6.heap.size + 1 := ⟨_, rfl⟩
    rw [← hgt]
    have h7 : w7.heap.size = gt := by rw [hw7, hgt]; simp
    have T5 : Hid (R2 (w7.alloc (.cells #[.int .i64 0, .int .i64 1] 31)) gt 0 1) := Lib.hid (by rw [← h7]; exact R2.new w7 0 1)
    have HGT := Lib.hid h7.symm
    clear T1a T1b T1z T2a T2b T2z T3a T3b T3z T4a T4b T4z hw7 hgt h7
    go_loopw [18] (fun u wr => ∃ (k : Nat) (N D : Int), u = .int .i64 k ∧ k ≤ n ∧ Hid (totQ (fun k => icm (unitL k) zs i') k = some (N, D)) ∧ Hid (isR N D = true) ∧ Hid (R2 wr gt N D) ∧ Hid (Below w7.heap.size w7 wr)) (fun u _ => n - (intOf u).toNat)
    case atStart => exact ⟨0, 0, 1, rfl, Nat.zero_le _, Lib.hid rfl, Lib.hid (okQ_whole (n := 0) (by omega) (by omega)), T5, Lib.hid (below_al w7 _)⟩
    case round =>
      obtain ⟨k, N, D, rfl, hk, hT, hR, hg, hbw⟩ := hrel
      by_cases hlt : k < n
      · have i1 : (k : Int) < (n : Int) := by omega
        have i2 : (0 : Int) ≤ (k : Int) := by omega
        go_wp2_with fail
        refine (impl_PlaceOdds_c A n d zs i' k _ hzl.out hzm (R.out.below hbw.out)).mono ?_
        rintro e w8 ⟨rfl, b8⟩
        obtain ⟨v1, v2, v3⟩ := HP.out k hlt
        rw [v1, v2, v3]
        have hg8 := Lib.hid (hg.out.below b8)
        have hbw8 := Lib.hid (below_step hbw.out b8 hbw.out.size)
        clear b8 hg hbw v1 v2 v3
        rcases hic : icm (unitL k) zs i' with _ | ⟨a, b⟩
        · rw [show icN none = 0 from rfl, show icD none = 0 from rfl, show icE none = 3 from rfl]
          clear hic
          go_wp2_with fail
          go_ret
          exact ⟨rfl, below_step C6.out (below_step hbw8.out (below_al w8 _) hbw8.out.size) C6.out.size⟩
        · rw [show icN (some (a, b)) = a from rfl, show icD (some (a, b)) = b from rfl, show icE (some (a, b)) = 0 from rfl]
          have HRA := Lib.hid (show isR a b = true from (icm_val (unitL k) zs i' (a, b) HS.out HI.out hic).1)
          have HIC := Lib.hid hic
          obtain ⟨-, -, d0, d1, -⟩ := isR_iff.1 hR.out
          obtain ⟨-, -, b0', b1', -⟩ := isR_iff.1 HRA.out
          clear hic
          obtain ⟨q0, q1, -, -⟩ := hg8.out.cells
          have gl8 := hg8.out.lt
          go_wp2_with fail
          refine (impl_AddRatios_c _ _ _ _ _ hR.out HRA.out).mono ?_
          rintro e w9 ⟨rfl, b9⟩
          have hg9 := Lib.hid ((hg8.out.below (below_al w8 _)).below b9)
          have hbw9 := Lib.hid (below_step (below_step hbw8.out (below_al w8 _) hbw8.out.size) b9 (below_step hbw8.out (below_al w8 _) hbw8.out.size).size)
          clear b9 q0 q1
          rcases red_cases (N * b + a * D) (D * b) with ⟨he, hq⟩ | ⟨he, hN0, hD0, hq⟩
          · rw [he]
            have hdd : 0 < D * b := Int.mul_pos (by omega) (by omega)
            have hRn : isR (redN (N * b + a * D) (D * b)) (redD (N * b + a * D) (D * b)) = true := (ratQ_val hdd hq).1
            obtain ⟨N2, hN2⟩ : ∃ N2, redN (N * b + a * D) (D * b) = N2 := ⟨_, rfl⟩
            obtain ⟨D2, hD2⟩ : ∃ D2, redD (N * b + a * D) (D * b) = D2 := ⟨_, rfl⟩
            rw [hN2, hD2] at hRn hq
            rw [hN2, hD2]
            have HR2 := Lib.hid hRn
            have HT2 := Lib.hid (show totQ (fun k => icm (unitL k) zs i') (k + 1) = some (N2, D2) by
              unfold totQ
              rw [hT.out, HIC.out, ← hq]
              rfl)
            obtain ⟨q0, q1, g2, g3⟩ := hg9.out.cells
            have gl9 := hg9.out.lt
            have gg : w7.heap.size ≤ gt := by rw [HGT.out]; exact Nat.le_refl _
            clear he hq hdd hN2 hD2 hRn
            go_wp2_with fail
            go_roundw
            case rel => exact ⟨k + 1, N2, D2, by go_num, by omega, HT2, HR2, Lib.hid (hg9.out.store.below (below_al _ _)), Lib.hid (below_step ((hbw9.out.setCell (p := ⟨gt, 0, none⟩) gg _).setCell (p := ⟨gt, 1, none⟩) gg _) (below_al _ _) ((hbw9.out.setCell (p := ⟨gt, 0, none⟩) gg _).setCell (p := ⟨gt, 1, none⟩) gg _).size)⟩
            case measure => simp [intOf]; omega
          · rw [he]
            clear he hN0 hD0 hq
            go_wp2_with fail
            go_ret
            exact ⟨rfl, below_step C6.out (below_step hbw9.out (below_al w9 _) hbw9.out.size) C6.out.size⟩
      · have hke : k = zs.length := by have := hzl.out; omega
        have h1 := place_total HS.out HI.out (by rw [← hke]; exact hT.out)
        injection h1 with e1 e2
        subst e1 e2
        obtain ⟨q0, q1, -, -⟩ := hg.out.cells
        clear hke
        go_wp2_with fail
        go_ret
        exact ⟨rfl, below_step C6.out hbw.out C6.out.size⟩
  · have hB : (poE zs i j == 0) = false := by simp [hE]
    go_wp2_with fail
    go_ret
    exact ⟨rfl, C6.out⟩

set_option maxRecDepth 100000 in
theorem lifted (os : Os) (started : os.Started) (H : Type) (enc : TypeId × Value → H) :
    ReturnsInHanded {} Try.checked os 11 .any (Rows.fnPlacesSpec.pre6 enc Try.prog Try.f11 Rows.fnPlacesRow.domain false) (Rows.fnPlacesSpec.post enc Try.prog Try.f11 false true false false) := by
  refine returnsInHanded_of_change (C := Try.checked) own started (by kernel_rfl) Try.func11
    (ChangeSpec.witness6 (enc := enc) (C := Try.checked) false ⟨#[], #[.slice none 0 0], []⟩ 8 (by kernel_rfl) (by kernel_rfl) (by kernel_rfl) (by kernel_rfl)) ?_
  intro W base args ds gs before hval0 hW hcnd _
  have hval : ∀ (j : Nat) t v, Try.f11.params[j]? = some t → args[j]? = some v → Value.okWide Try.prog W .any base t v := hval0
  have hW' := hW
  obtain ⟨p, q, hA0, hV, rfl, hfz, hnd⟩ := hW
  have hA : DataW.TrodAll enc Try.prog W 0 (fun _ => true) true Try.f11.params.toList args.toList ds p := hA0
  rw [Try.params11] at hA hval
  obtain ⟨v0, vs0, d0, ds0, p0, q0, hargs, rfl, rfl, h0, r0⟩ := trodAll_cons hA
  obtain ⟨rfl, rfl, rfl⟩ := trodAll_nil r0
  obtain rfl : args = #[v0] := by cases args; simp_all
  obtain ⟨rfl, rfl⟩ := trodVars_none hV
  obtain ⟨a0, len0, cap0, rfl⟩ := okWide_slice Try.underlying45 (hval 0 45 v0 rfl rfl)
  have k0 := h0
  have lt0 : ∀ x ∈ p0, x.block < W.heap.size := by obtain ⟨m, hm⟩ := k0; exact DataW.trod_lt m _ _ _ hm
  obtain ⟨z0, w0⟩ : ∃ zs, IsRow .u8 W a0 len0 cap0 zs := by
    obtain ⟨fuel, hf⟩ := h0
    rcases open_ints Try.underlying45 Try.underlying5 (by kernel_rfl) hf with ⟨hcs, _⟩ | ⟨x, l, c, zs, hcs, _, hl, hm, hz, _, hcell, hwz⟩
    · simp [Value.cells] at hcs
      obtain ⟨rfl, rfl, rfl⟩ := hcs
      exact ⟨[], .inl ⟨rfl, rfl, rfl, rfl⟩⟩
    · simp [Value.cells] at hcs
      obtain ⟨rfl, rfl, rfl⟩ := hcs
      exact ⟨zs, .inr ⟨_, rfl, hl, hm, by simpa using hz, hcell, hwz⟩⟩
  clear hA0 hval0
  refine (walk a0 len0 cap0 z0 W w0).mono fun e W' ⟨he, bel⟩ => ?_
  subst he
  exact ⟨_, rfl, _, _, _, [], _, [], hW', trodAll_mk1 (shut_bool Try.underlying4 _), (trodAll_cons_mk (Below.trod laidOut (by kernel_rfl) (of_decide_eq_true (by kernel_rfl)) k0 bel lt0) trodAll_mk0), rfl, bel.frame _, fun h => by cases h⟩

theorem over : Rows.fnPlacesRow.holds Try.pinned (OpenSpec.ofChange Rows.fnPlacesSpec) :=
  OpenClaim.holds_of_wide 11 Try.f11 rfl rfl rfl rfl rfl rfl rfl ⟨rfl, rfl, rfl, rfl, rfl⟩ rfl rfl rfl rfl rfl (by kernel_rfl) Try.func11 (by kernel_rfl)
    (of_decide_eq_true (by kernel_rfl)) (by unfold Func.isWrapper; first | (rw [if_pos (by decide +kernel)]; kernel_rfl) | (rw [if_neg (by decide +kernel)]; exact ⟨rfl, rfl⟩))
    (fun os started H enc _ => lifted os started H enc)

/-- THE STATEMENT. -/
theorem proved : Rows.FnPlacesSaid := over
#print axioms proved
end Go.Proofs.Ytoibjedpniepbaa.fnPlaces
