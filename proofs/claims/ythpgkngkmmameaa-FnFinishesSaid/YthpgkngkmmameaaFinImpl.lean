/-
  The contract of FinishesOf of the program. Conditions: at most 1048576 shares, groups and entries of a group.
-/
import Derived.Test.YthpgkngkmmameaaFinOut
namespace Go.Proofs.Ythpgkngkmmameaa
open Go.RowKit
set_option linter.unusedVariables false
set_option maxRecDepth 100000 in
set_option maxHeartbeats 8000000 in
theorem impl_FinishesOf_c (N B F G : Int) (A : Option Addr) (n c : Nat) (S : List Int) (A' : Option Addr) (m d : Nat) (rows : List (List Int)) (w : World) (hn : S.length = n) (hm : n ≤ 1048576) (hr : RI w A S) (hn' : rows.length = m) (hm' : m ≤ 1048576) (hz : Hid (∀ g ∈ rows, g.length ≤ 1048576)) (hr' : RM w A' rows) :
    Calls Try.prog 49 #[.agg #[.int .i64 N, .int .i64 B, .int .i64 F, .int .i64 G, .slice A n c], .slice A' m d] w (LR w (foV N B F G S rows) (foE N B F G S rows)) := by
  have HN := Lib.hid hn
  have HN' := Lib.hid hn'
  have HX0 := Lib.hid (E5.new 58 w N B F G A n c)
  clear hn hn'
  cases h : evB N B F G S
  · have HV := Lib.hid (show foV N B F G S rows = [] by simp [foV, h])
    have HE := Lib.hid (show foE N B F G S rows = 1 by simp [foE, h])
    go_enter Try.func49, Try.ntmps49
    go_wp2_with fail
    refine (impl_IsEvent_c _ _ _ _ _ _ _ S _ HN.out hm (hr.boxed _)).mono ?_
    rintro e w1 ⟨rfl, b1⟩
    rw [h]
    go_wp2_with fail
    go_ret2
    rw [HV.out, HE.out]
    exact LR.mk rfl rfl (Nat.zero_le _) (OI.nil _ _ _ _) ((below_box _ _).trans (b1.mono (by simp)))
  · have hN60 := (evB_iff.1 h).1
    obtain ⟨nn, rfl⟩ : ∃ nn : Nat, N = nn := ⟨N.toNat, by omega⟩
    have n60 : nn ≤ 60 := by omega
    have n2 : 2 ≤ nn := by omega
    have HEV := Lib.hid h
    have HNO := Lib.hid (fun (k : Nat) (hk : k ≤ rows.length) (hh : foK nn rows k = none) => foE_none (F := F) h (foA_none hh hk))
    obtain ⟨i0, hi, hz0, hz1, hz2⟩ := info_parts info_int
    obtain ⟨j0, ki, kz0, kz1, kz2⟩ := info_parts info_bool'
    clear h hN60
    go_enter Try.func49, Try.ntmps49
    go_wp2_with fail
    refine (impl_IsEvent_c _ _ _ _ _ _ _ S _ HN.out hm (hr.boxed _)).mono ?_
    rintro e w1 ⟨rfl, b1⟩
    rw [HEV.out]
    have X1 := Lib.hid (HX0.out.below b1)
    have BW1 := Lib.hid ((below_box w (.cells #[.int .i64 nn, .int .i64 B, .int .i64 F, .int .i64 G, .slice A n c] 58)).trans (b1.mono (by simp)))
    have hw1 := BW1.out.size
    have xlt := X1.out.lt
    obtain ⟨c0, c1, c2, c3, c4⟩ := X1.out.cells
    clear b1 HX0
    have tok : True := trivial
    have tik : True := trivial
    go_wp2_with (first
      | (at_make; have _t := tok; refine wpList_make_full _ rfl _ _ _ rfl w1.heap.size 2 i0 _ 1 Try.underlying22 hi hz0 hz1 _ _ _ _ nn rfl rfl rfl rfl (by rw [hz2]; omega) (by unfold maxLen; omega) (Nat.le_refl _) ?_; intro w2 hown1 hg1; have X2 := Lib.hid (X1.out.below ((Below.refl _ _).grown hg1 (Nat.le_refl _) (by simp))); clear c0 c1 c2 c3 c4 tok; obtain ⟨c0, c1, c2, c3, c4⟩ := X2.out.cells; have RO1 := Lib.hid hown1; have GR1 := Lib.hid hg1; have SZ1 := hg1.size; clear hown1 hg1)
      | (at_make; have _t := tik; refine wpList_make_full _ rfl _ _ _ rfl w2.heap.size 4 j0 _ 1 Try.underlying111 ki kz0 kz1 _ _ _ _ nn rfl rfl rfl rfl (by rw [kz2]; omega) (by unfold maxLen; omega) (Nat.le_refl _) ?_; intro w3 hown2 hg2; have X3 := Lib.hid (X2.out.below ((Below.refl _ _).grown hg2 (Nat.le_refl _) (by simp))); clear c0 c1 c2 c3 c4 tik; obtain ⟨c0, c1, c2, c3, c4⟩ := X3.out.cells; have RO2 := Lib.hid hown2; have GR2 := Lib.hid hg2; clear hown2 hg2))
    obtain ⟨G1, hG1⟩ : ∃ G1, w1.heap.size = G1 := ⟨_, rfl⟩
    obtain ⟨G2, hG2⟩ : ∃ G2, w2.heap.size = G2 := ⟨_, rfl⟩
    have FS := Lib.hid (FlSt.make (by omega) RO1.out GR1.out RO2.out GR2.out)
    rw [hG1, hG2] at FS
    rw [hG1, hG2]
    have hG12 : G1 ≤ G2 := by omega
    clear RO1 GR1 RO2 GR2 hi hz0 hz1 hz2 ki kz0 kz1 kz2 X2 X3 c0 c1 c2 c3 c4
    go_loopw [8, 26] (fun l i wr => ∃ (k : Nat) (L : Int) (f : List Int) (bs : List Bool), l = .int .i64 L ∧ i = .int .i64 k ∧ k ≤ m ∧ Hid (foK nn rows k = some (f, bs, L)) ∧ (-(1048576 * (k : Int)) ≤ L ∧ L ≤ nn) ∧ Hid (FlSt w1 wr G1 G2 f bs)) (fun _ i _ => m - (intOf i).toNat)
    case atStart => exact ⟨0, nn, _, _, rfl, rfl, Nat.zero_le _, Lib.hid rfl, ⟨by omega, Int.le_refl _⟩, by simpa using FS⟩
    case round =>
      clear FS
      obtain ⟨k, L, f, bs, rfl, rfl, hk, hfo, hLb, hfs⟩ := hrel
      obtain ⟨hL0, hL1⟩ := hLb
      by_cases hlt : k < m
      · have i1 : (k : Int) < (m : Int) := by omega
        have i2 : (0 : Int) ≤ (k : Int) := by omega
        obtain ⟨g, hg⟩ := getM (rows := rows) (k := k) (by rw [HN'.out]; exact hlt)
        have hgl := hz.out g (List.mem_of_getElem? hg)
        have HG := Lib.hid hg
        rcases (hr'.below BW1.out).split with h0 | ⟨b, off, rfl, hb, hc⟩
        · exfalso; have := HN'.out; omega
        obtain ⟨Ag, cg, e1, rg⟩ := hc.out k g hg
        have RG := Lib.hid rg
        obtain ⟨q, hq⟩ : ∃ q, g.length = q := ⟨_, rfl⟩
        have HQ := Lib.hid hq
        rw [hq] at e1 hgl
        have hcx := (hfs.out.below.cell (p := ⟨b, off + k, none⟩) hb).trans e1
        clear hg e1 rg hq hc
        by_cases hq0 : q = 0
        · have HV := Lib.hid (HNO.out (k + 1) (by rw [HN'.out]; omega) (by
            rw [grp_step hfo.out HG.out]
            unfold grpS
            rw [if_pos (List.eq_nil_of_length_eq_zero (by rw [HQ.out, hq0]))]))
          subst hq0
          go_wp2_with fail
          go_ret2
          rw [HV.out.1, HV.out.2]
          exact LR.mk rfl rfl (Nat.zero_le _) (OI.nil _ _ _ _) (below_step BW1.out hfs.out.below hw1)
        · have hqz : ((q : Int) == 0) = false := by simp; omega
          obtain ⟨wo, rfl⟩ : ∃ wo : World, wo = wr := ⟨_, rfl⟩
          rcases RG.out.split with h0 | ⟨bg, og, rfl, hbg, hcg⟩
          · exfalso; have := HQ.out; omega
          have HFL := Lib.hid (foK_len k hfo.out)
          have HGS := Lib.hid (show foK nn rows (k + 1) = (goneK nn g q bs).map fun b => (putK (L - q) g q f, b, L - q) by
            rw [grp_step hfo.out HG.out]
            unfold grpS
            rw [if_neg (fun hh => hq0 (by rw [← HQ.out, hh]; rfl)), HQ.out])
          obtain ⟨L', hL'⟩ : ∃ L', L - (q : Int) = L' := ⟨_, rfl⟩
          have HL' := Lib.hid hL'
          have l0 : -(1048576 * ((k : Int) + 1)) ≤ L' := by omega
          have l1 : L' ≤ nn := by omega
          rw [hL'] at HGS
          clear RG
          go_wp2_with fail
          clear hL'
          go_loopw [39] (fun i wr => ∃ (j : Nat) (t : List Bool), i = .int .i64 j ∧ j ≤ q ∧ Hid (goneK nn g j bs = some t) ∧ Hid (FlSt w1 wr G1 G2 (putK L' g j f) t)) (fun i _ => q - (intOf i).toNat)
          case atStart => exact ⟨0, bs, rfl, Nat.zero_le _, Lib.hid rfl, hfs⟩
          case round =>
            clear hfs hcx
            obtain ⟨j, t, rfl, hj, hgo, hfs⟩ := hrel
            by_cases hlj : j < q
            · obtain ⟨x, hx⟩ := get_some (zs := g) (k := j) (by rw [HQ.out]; exact hlj)
              have hcx := (hfs.out.below.cell (p := ⟨bg, og + j, none⟩) hbg).trans (hcg.out j x hx)
              have HX := Lib.hid hx
              have XE := Lib.hid (X1.out.below hfs.out.below)
              obtain ⟨c0, -, -, -, -⟩ := XE.out.cells
              have j1 : (j : Int) < (q : Int) := by omega
              have j2 : (0 : Int) ≤ (j : Int) := by omega
              clear hx
              cases hin : inB x 0 ((nn : Int) - 1)
              · have HV := Lib.hid (HNO.out (k + 1) (by rw [HN'.out]; omega) (by
                  rw [HGS.out, goneK_none (k := j + 1) (by rw [one_step hgo.out HX.out, if_neg (fun hh => by rw [hin] at hh; cases hh.1)]) (by omega)]
                  rfl))
                go_wp2_with (go_at_call 94; refine (impl_within_c _ _ _ _).mono ?_; rintro e w' ⟨rfl, rfl⟩; rw [hin])
                go_ret2
                rw [HV.out.1, HV.out.2]
                exact LR.mk rfl rfl (Nat.zero_le _) (OI.nil _ _ _ _) (below_step BW1.out hfs.out.below hw1)
              · obtain ⟨x0, x1⟩ := inB_iff.1 hin
                obtain ⟨xn, rfl⟩ : ∃ xn : Nat, x = xn := ⟨x.toNat, by omega⟩
                have hxl : xn < nn := by omega
                have HTL := Lib.hid (show t.length = nn by rw [goneK_len j hgo.out, HFL.out.2]; simp)
                obtain ⟨bb, hbb⟩ : ∃ bb, t[xn]? = some bb := ⟨_, List.getElem?_eq_getElem (by rw [HTL.out]; exact hxl)⟩
                have d0 := hfs.out.b xn bb hbb
                have d1 := hfs.out.f xn
                have HBB := Lib.hid (show t.getD xn false = bb by simp [List.getD, hbb])
                have x2 : (xn : Int) < (nn : Int) := by omega
                have x3 : (0 : Int) ≤ (xn : Int) := by omega
                clear hbb
                cases bb
                · have HPL := Lib.hid (show (putK L' g j f).length = nn by rw [putK_len, HFL.out.1]; simp)
                  obtain ⟨y, hy⟩ := get_some (zs := putK L' g j f) (k := xn) (by rw [HPL.out]; exact hxl)
                  obtain ⟨d2, d3⟩ := hfs.out.cell1 hy
                  have HN1 := Lib.hid (show goneK nn g (j + 1) bs = some (t.set xn true) by
                    rw [one_step hgo.out HX.out, if_pos ⟨hin, by rw [Int.toNat_natCast]; exact HBB.out⟩, Int.toNat_natCast])
                  have F2 := Lib.hid ((hfs.out.set2 (j := xn) (by rw [HTL.out]; exact hxl) true).set1 (j := xn) (by rw [HPL.out]; exact hxl) L')
                  have HPS := Lib.hid (show putK L' g (j + 1) f = (putK L' g j f).set xn L' by rw [put_step HX.out, Int.toNat_natCast])
                  have ne1 : ¬ G1 = G2 := hfs.out.ne
                  have ne2 : ¬ G2 = G1 := fun h => ne1 h.symm
                  clear hy
                  go_wp2_with (go_at_call 94; refine (impl_within_c _ _ _ _).mono ?_; rintro e w' ⟨rfl, rfl⟩; rw [hin])
                  go_roundw
                  case rel => exact ⟨j + 1, _, by go_num, by omega, HN1, Lib.hid (by rw [HPS.out]; exact F2.out)⟩
                  case measure => simp [intOf]; omega
                · have HV := Lib.hid (HNO.out (k + 1) (by rw [HN'.out]; omega) (by
                    rw [HGS.out, goneK_none (k := j + 1) (by rw [one_step hgo.out HX.out, if_neg (fun hh => by rw [Int.toNat_natCast, HBB.out] at hh; cases hh.2)]) (by omega)]
                    rfl))
                  go_wp2_with (go_at_call 94; refine (impl_within_c _ _ _ _).mono ?_; rintro e w' ⟨rfl, rfl⟩; rw [hin])
                  go_ret2
                  rw [HV.out.1, HV.out.2]
                  exact LR.mk rfl rfl (Nat.zero_le _) (OI.nil _ _ _ _) (below_step BW1.out hfs.out.below hw1)
            · obtain rfl : j = q := by omega
              have HFN := Lib.hid (show foK nn rows (k + 1) = some (putK L' g j f, t, L') by rw [HGS.out, hgo.out]; rfl)
              go_wp2_with fail
              go_roundw
              case rel => exact ⟨k + 1, L', _, t, rfl, by go_num, by omega, HFN, ⟨by push_cast; omega, by omega⟩, hfs⟩
              case measure => simp [intOf]; omega
      · obtain rfl : k = m := by omega
        have HFA := Lib.hid (show foA nn rows = if L = 0 then none else some f by unfold foA; rw [HN'.out, hfo.out]; rfl)
        have HFL := Lib.hid (show f.length = nn by rw [(foK_len k hfo.out).1]; simp)
        by_cases hL : L = 0
        · have HV := Lib.hid (foE_none (F := F) HEV.out (by rw [HFA.out, if_pos hL]))
          subst hL
          go_wp2_with fail
          go_ret2
          rw [HV.out.1, HV.out.2]
          exact LR.mk rfl rfl (Nat.zero_le _) (OI.nil _ _ _ _) (below_step BW1.out hfs.out.below hw1)
        · have HV := Lib.hid (foE_some (F := F) HEV.out (by rw [HFA.out, if_neg hL]))
          have hLz : (L == 0) = false := by simp [hL]
          have gz := hfs.out.z1
          have gl := hfs.out.l1
          go_wp2_with fail
          go_ret2
          rw [HV.out.1, HV.out.2]
          exact LR.mk rfl HFL.out (by omega) (hfs.out.s.widen (by omega) (by omega)) (below_step BW1.out hfs.out.below hw1)
end Go.Proofs.Ythpgkngkmmameaa
