/-
  PROVED: 'FnDrops' returns true for every input and leaves its arguments as they were. Conditions: none but the statement's own.
-/
import Derived.Test.YtcdianhemnpmcaaFrame
import Derived.Test.YtcdianhemnpmcaaArgB
import Derived.Test.YtcdianhemnpmcaaDropFacts
import Derived.Test.YtcdianhemnpmcaaDrawList
import Derived.Test.YtcdianhemnpmcaaSpread
namespace Go.Proofs.Ytcdianhemnpmcaa.fnDrops
open Go.ChangeShapes Go.WideShapes Go.ChangeAt Go.RowKit
open Go.ChangeMaps (open_string shut_string)
set_option linter.unusedVariables false

set_option maxRecDepth 20000 in
set_option maxHeartbeats 2000000 in
/-- THE WALK. -/
theorem walk (a0 : Option Addr) (len0 cap0 : Nat) (z0 : List Int) (w : World) (w0 : IsRow .u8 w a0 len0 cap0 z0) :
    Calls Try.prog 11 #[.slice a0 len0 cap0] w fun e w' => e = .returned (.bool true) ∧ Below w.heap.size w w' := by
  have hr := isRow_br w0
  have hl := isRow_len w0
  clear w0
  generalize z0.take len0 = bs at hr hl
  by_cases hbig : 4096 < len0
  · have HB := decide_eq_true hbig
    clear hbig
    go_enter Try.func11, Try.ntmps11
    go_wp2_with fail
    refine (laws_big_c _ _ _ _).mono ?_
    rintro e w' ⟨rfl, rfl⟩
    go_wp2_with fail
    go_ret
    exact ⟨rfl, Below.refl _ _⟩
  have hm : len0 ≤ 1048576 := by omega
  have HB := decide_eq_false hbig
  clear hbig
  have HL := Lib.hid hl
  clear hl
  have b0 := Lib.hid (Below.refl w.heap.size w)
  go_enter Try.func11, Try.ntmps11
  go_wp2_with fail
  refine (laws_big_c _ _ _ _).mono ?_
  rintro e w' ⟨rfl, rfl⟩
  go_wp2_with fail
  refine (spec_DrawGreatestDrop_c a0 len0 cap0 bs _ HL.out hm (hr.below b0.out)).mono ?_
  rintro e w1 ⟨A, n, d, zs, rfl, hzl, hzm, hri, hb1⟩
  have B1 := Lib.hid (below_step b0.out hb1 b0.out.size)
  clear hb1
  have R := Lib.hid hri
  clear hri
  go_wp2_with fail
  refine (impl_GreatestDrop_c A n d zs _ hzl.out hzm R.out).mono ?_
  rintro e w2 ⟨rfl, hb2⟩
  have B2 := Lib.hid (below_step B1.out hb2 B1.out.size)
  replace R := Lib.hid (R.out.below hb2)
  clear hb2
  go_wp2_with fail
  refine (spec_GreatestDrop_c A n d zs _ hzl.out hzm R.out).mono ?_
  rintro e w3 ⟨rfl, hb3⟩
  have B3 := Lib.hid (below_step B2.out hb3 B2.out.size)
  replace R := Lib.hid (R.out.below hb3)
  clear hb3
  cases hres : resB zs
  · have v1 : gdE zs = 1 := by simp [gdE, hres]
    clear hres
    go_wp2_with fail
    go_ret
    exact ⟨rfl, B3.out⟩
  obtain ⟨gf, gl, gd, gx, gy, v1, v2, v3, v4, gd0, gf0, gl0, hgx, hgy, hxy, hall⟩ := gd_fact hres
  have HALL := Lib.hid hall
  have HGX := Lib.hid hgx
  have HGY := Lib.hid hgy
  have HXY := Lib.hid hxy
  have vb : balE zs = 0 := by simp [balE, hres]
  have HCONS := Lib.hid (balL_cons hres)
  have HBL := Lib.hid (balL_len zs)
  have hbd := balL_bound (resB_iff.1 hres).2.2 (resB_iff.1 hres).2.1
  have HBD := Lib.hid hbd
  obtain ⟨nz0, nz1, -⟩ := resB_iff.1 hres
  have hlv := (show (balV zs).length = zs.length by unfold balV; rw [if_pos hres, List.length_drop, balL_len]; omega)
  have HLV := Lib.hid hlv
  clear hall hgx hgy hxy hres hbd hlv
  go_wp2_with fail
  refine (impl_BalancesOf_c A n d zs _ hzl.out hzm R.out).mono ?_
  rintro e w4 ⟨G1, n1, d1, rfl, hl1, hm1, ho1, hb4⟩
  have B4 := Lib.hid (below_step B3.out hb4 B3.out.size)
  replace R := Lib.hid (R.out.below hb4)
  clear hb4
  have R1 := Lib.hid ho1.ri
  clear ho1
  obtain rfl : n1 = n := by have h1 := hl1.out; have h2 := HLV.out; have h3 := hzl.out; omega
  have hn1 : 1 ≤ n1 := by have h3 := hzl.out; omega
  have hn100 : n1 ≤ 100 := by have h3 := hzl.out; omega
  rcases R1.out.split with h0 | ⟨gb, goff, rfl, hgl, hc⟩
  · exfalso; have := hl1.out; omega
  have hrow := Row.oneS w4 (base := w4.heap.size) 0 (Nat.le_refl _)
  have hnews : ∀ (j : Nat) (y : Int), (balV zs)[j]? = some y → (w4.alloc (.cells #[.int .i64 0] 2)).cell? ⟨gb, goff + j, none⟩ = some (.int .i64 y) := fun j y hy => by
    rw [World.cell?_alloc_past _ _ _ hgl]; exact hc.out j y hy
  have HN := Lib.hid hnews
  clear hc hnews
  go_wp2_with (at_builtin; refine wpList_appendS rfl _ _ rfl w4.heap.size (some ⟨w4.heap.size, 0, none⟩) 1 1 [0] rfl hrow gb goff n1 d1 (balV zs) rfl hl1.out HN.out (by omega) (by omega) (by simp) ?_; intro g2 c2 w5 hr5 hb5 hg5)
  rw [HCONS.out] at hr5
  have B5 := Lib.hid (B4.out.trans (((Below.refl w4.heap.size w4).alloc (Nat.le_refl _) (.cells #[.int .i64 0] 2)).trans hb5 |>.mono B4.out.size))
  have R5 := Lib.hid hr5.oi.ri
  have hlen5 := hr5.length
  have HL5 := Lib.hid hlen5
  clear hr5 hb5 hg5 hrow HN hlen5
  go_wp2_with fail
  have hz5 := HL5.out
  rcases R5.out.split with h0 | ⟨rb, roff, hg2e, hrl, hc⟩
  · exfalso; omega
  injection hg2e with e1
  injection e1 with e2 e3 e4
  subst e2
  subst e3
  clear e4 hz5
  have HC : Hid (∀ (j : Nat) (x : Int), (balL zs)[j]? = some x → w5.cell? ⟨g2, j, none⟩ = some (.int .i64 x)) := Lib.hid (fun j x hx => by have := hc.out j x hx; rwa [Nat.zero_add] at this)
  clear hc
  go_loopw [15] (fun i wr => ∃ k : Nat, i = .int .i64 k ∧ k ≤ 1 + n1 ∧ ∃ q, wr = w5.drewN q) (fun i _ => 1 + n1 - (intOf i).toNat)
  case atStart => exact ⟨0, rfl, Nat.zero_le _, 0, rfl⟩
  case round =>
    obtain ⟨i, rfl, hi, q, rfl⟩ := hrel
    by_cases hlt : i < 1 + n1
    · obtain ⟨x, hx⟩ := get_some (zs := balL zs) (k := i) (by have := HL5.out; omega)
      obtain ⟨x0, x1⟩ := HBD.out i x hx
      have hcx := HC.out i x hx
      have HX := Lib.hid hx
      have g1 : (i : Int) < 1 + (n1 : Int) := by omega
      have g2 : 0 ≤ (i : Int) := by omega
      clear hx
      go_wp2_with fail
      go_loopw [16] (fun k wr => ∃ j : Nat, k = .int .i64 j ∧ i < j ∧ j ≤ 1 + n1 ∧ ∃ q, wr = w5.drewN q) (fun k _ => 1 + n1 - (intOf k).toNat)
      case atStart => exact ⟨i + 1, by go_num, by omega, by omega, q, rfl⟩
      case round =>
        obtain ⟨j, rfl, hij, hj, q', rfl⟩ := hrel
        by_cases hlt' : j < 1 + n1
        · obtain ⟨y, hy⟩ := get_some (zs := balL zs) (k := j) (by have := HL5.out; omega)
          obtain ⟨y0, y1⟩ := HBD.out j y hy
          have hcy := HC.out j y hy
          have hle := HALL.out i j x y hij HX.out hy
          have hng : ¬ gd < x - y := by omega
          have g3 : (j : Int) < 1 + (n1 : Int) := by omega
          have g4 : 0 ≤ (j : Int) := by omega
          have hwx := IntWalk.i64_in (x - y) (by omega)
          clear hy hle
          go_wp2_with fail
          go_quiet (fail)
          clear hwx
          go_wp2_with fail
          go_roundw
          case rel => exact ⟨j + 1, by go_num, by omega, by omega, _, rfl⟩
          case measure => simp [intOf]; omega
        · go_wp2_with fail
          go_roundw
          case rel => exact ⟨i + 1, by go_num, by omega, _, rfl⟩
          case measure => simp [intOf]; omega
    · have hcx := HC.out gf gx HGX.out
      have hcy := HC.out gl gy HGY.out
      obtain ⟨x0, x1⟩ := HBD.out gf gx HGX.out
      obtain ⟨y0, y1⟩ := HBD.out gl gy HGY.out
      have g1 : (gf : Int) < 1 + (n1 : Int) := by have := HL5.out; omega
      have g2 : 0 ≤ (gf : Int) := by omega
      have g3 : (gl : Int) < 1 + (n1 : Int) := by have := HL5.out; omega
      have g4 : 0 ≤ (gl : Int) := by omega
      have hxy := HXY.out
      subst hxy
      have hwx := IntWalk.i64_in (gx - gy) (by omega)
      go_wp2_with fail
      go_quiet (fail)
      clear hwx
      go_wp2_with fail
      go_ret
      exact ⟨ret_bool (decide_eq_true (by omega)), below_drewN (below_drewN B5.out _) _⟩

set_option maxRecDepth 100000 in
theorem lifted (os : Os) (started : os.Started) (H : Type) (enc : TypeId × Value → H) :
    ReturnsInHanded {} Try.checked os 11 .any (Rows.fnDropsSpec.pre6 enc Try.prog Try.f11 Rows.fnDropsRow.domain false) (Rows.fnDropsSpec.post enc Try.prog Try.f11 false true false false) := by
  refine returnsInHanded_of_change (C := Try.checked) own started (by kernel_rfl) Try.func11
    (ChangeSpec.witness6 (enc := enc) (C := Try.checked) false ⟨#[], #[.slice none 0 0], []⟩ 8 (by kernel_rfl) (by kernel_rfl) (by kernel_rfl) (by kernel_rfl)) ?_
  intro W base args ds gs before hval0 hW hcnd _
  have hval : ∀ (j : Nat) t v, Try.f11.params[j]? = some t → args[j]? = some v → Value.okWide Try.prog W .any base t v := hval0
  have hW' := hW
  obtain ⟨p, q, hA0, hV, rfl, hfz, hnd⟩ := hW
  have hA : DataW.TrodAll enc Try.prog W 0 (fun _ => true) true Try.f11.params.toList args.toList ds p := hA0
  rw [Try.params11] at hA hval
  obtain ⟨v0, vs0, d0, ds0, p0, q0, hargs, rfl, rfl, h0, r0⟩ := trodAll_cons hA
  obtain ⟨rfl, rfl, rfl⟩ := trodAll_nil r0
  obtain rfl : args = #[v0] := by cases args; simp_all
  obtain ⟨rfl, rfl⟩ := trodVars_none hV
  obtain ⟨a0, len0, cap0, rfl⟩ := okWide_slice Try.underlying44 (hval 0 44 v0 rfl rfl)
  have k0 := h0
  have lt0 : ∀ x ∈ p0, x.block < W.heap.size := by obtain ⟨m, hm⟩ := k0; exact DataW.trod_lt m _ _ _ hm
  obtain ⟨z0, w0⟩ : ∃ zs, IsRow .u8 W a0 len0 cap0 zs := by
    obtain ⟨fuel, hf⟩ := h0
    rcases open_ints Try.underlying44 Try.underlying5 (by kernel_rfl) hf with ⟨hcs, _⟩ | ⟨x, l, c, zs, hcs, _, hl, hm, hz, _, hcell, hwz⟩
    · simp [Value.cells] at hcs
      obtain ⟨rfl, rfl, rfl⟩ := hcs
      exact ⟨[], .inl ⟨rfl, rfl, rfl, rfl⟩⟩
    · simp [Value.cells] at hcs
      obtain ⟨rfl, rfl, rfl⟩ := hcs
      exact ⟨zs, .inr ⟨_, rfl, hl, hm, by simpa using hz, hcell, hwz⟩⟩
  clear hA0 hval0
  refine (walk a0 len0 cap0 z0 W w0).mono fun e W' ⟨he, bel⟩ => ?_
  subst he
  exact ⟨_, rfl, _, _, _, [], _, [], hW', trodAll_mk1 (shut_bool Try.underlying4 _), (trodAll_cons_mk (Below.trod laidOut (by kernel_rfl) (of_decide_eq_true (by kernel_rfl)) k0 bel lt0) trodAll_mk0), rfl, bel.frame _, fun h => by cases h⟩

theorem over : Rows.fnDropsRow.holds Try.pinned (OpenSpec.ofChange Rows.fnDropsSpec) :=
  OpenClaim.holds_of_wide 11 Try.f11 rfl rfl rfl rfl rfl rfl rfl ⟨rfl, rfl, rfl, rfl, rfl⟩ rfl rfl rfl rfl rfl (by kernel_rfl) Try.func11 (by kernel_rfl)
    (of_decide_eq_true (by kernel_rfl)) (by unfold Func.isWrapper; first | (rw [if_pos (by decide +kernel)]; kernel_rfl) | (rw [if_neg (by decide +kernel)]; exact ⟨rfl, rfl⟩))
    (fun os started H enc _ => lifted os started H enc)

/-- THE STATEMENT. -/
theorem proved : Rows.FnDropsSaid := over
#print axioms proved
end Go.Proofs.Ytcdianhemnpmcaa.fnDrops
