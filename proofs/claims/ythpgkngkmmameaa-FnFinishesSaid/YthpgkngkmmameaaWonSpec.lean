/-
  The contract of PrizesWon of the reference. Conditions: at most 1048576 shares and finishes.
-/
import Derived.Test.YthpgkngkmmameaaWon
namespace Go.Proofs.Ythpgkngkmmameaa
open Go.RowKit
set_option linter.unusedVariables false
theorem spec_l31Code_c (N B F G : Int) (A : Option Addr) (n c : Nat) (S : List Int) (A' : Option Addr) (m d : Nat) (fs : List Int) (w : World) (hn : S.length = n) (hm : n ≤ 1048576) (hr : RI w A S) (hn' : fs.length = m) (hm' : m ≤ 1048576) (hr' : RI w A' fs) :
    Calls Try.prog 110 #[.agg #[.int .i64 N, .int .i64 B, .int .i64 F, .int .i64 G, .slice A n c], .slice A' m d] w fun e w' => e = .returned (.int .i64 (pwE N B F G S fs)) ∧ Below w.heap.size w w' := by
  have HN := Lib.hid hn
  have HN' := Lib.hid hn'
  have HX0 := Lib.hid (E5.new 58 w N B F G A n c)
  clear hn hn'
  cases h : evB N B F G S
  · have HE := Lib.hid (show pwE N B F G S fs = 1 by simp [pwE, h])
    go_enter Try.func110, Try.ntmps110
    go_wp2_with fail
    refine (spec_IsEvent_c _ _ _ _ _ _ _ S _ HN.out hm (hr.boxed _)).mono ?_
    rintro e w1 ⟨rfl, b1⟩
    rw [h]
    go_wp2_with fail
    go_ret
    exact ⟨ret_int HE.out.symm, (below_box _ _).trans (b1.mono (by simp))⟩
  · obtain ⟨f, hf⟩ : ∃ f, ((fs.length : Int) == N && finB fs) = f := ⟨_, rfl⟩
    have HA := Lib.hid (show aeB N B F G S fs = f by unfold aeB; rw [h, hf]; rfl)
    have HE := Lib.hid (show pwE N B F G S fs = if f = true then 0 else 2 by unfold pwE; rw [if_pos h, hf])
    have HEV := Lib.hid h
    clear h hf
    go_enter Try.func110, Try.ntmps110
    go_wp2_with fail
    refine (spec_IsEvent_c _ _ _ _ _ _ _ S _ HN.out hm (hr.boxed _)).mono ?_
    rintro e w1 ⟨rfl, b1⟩
    rw [HEV.out]
    have X1 := Lib.hid (HX0.out.below b1)
    have BW1 := Lib.hid ((below_box w (.cells #[.int .i64 N, .int .i64 B, .int .i64 F, .int .i64 G, .slice A n c] 58)).trans (b1.mono (by simp)))
    obtain ⟨c0, c1, c2, c3, c4⟩ := X1.out.cells
    clear b1
    go_wp2_with fail
    refine (spec_AreFinishes_c _ _ _ _ _ _ _ S _ _ _ fs _ HN.out hm (hr.below BW1.out) HN'.out hm' (hr'.below BW1.out)).mono ?_
    rintro e w2 ⟨rfl, b2⟩
    rw [HA.out]
    cases f
    · go_wp2_with fail
      go_ret
      exact ⟨ret_int HE.out.symm, below_step BW1.out b2 BW1.out.size⟩
    · go_wp2_with fail
      go_ret
      exact ⟨ret_int HE.out.symm, below_step BW1.out b2 BW1.out.size⟩
theorem mix2_get {l : List Int} {n k : Nat} (hl : l.length = n) (hk : k < n) : (l.take k ++ List.replicate (n - k) 0)[k]? = some 0 := by
  rw [List.getElem?_append_right (by simp; omega), List.getElem?_replicate, if_pos (by simp; omega)]
theorem mix2_set {l : List Int} {n k : Nat} {x : Int} (hl : l.length = n) (hk : k < n) (hx : l[k]? = some x) : (l.take k ++ List.replicate (n - k) 0).set k x = l.take (k + 1) ++ List.replicate (n - (k + 1)) 0 := by
  have h1 : (l.take k).length = k := by simp; omega
  rw [List.set_append_right _ _ (by omega), h1, Nat.sub_self, List.take_add_one, hx, show n - k = (n - (k + 1)) + 1 by omega, List.replicate_succ, List.set_cons_zero]
  simp
theorem bef_step {fs : List Int} {j k : Nat} {x y : Int} (hy : fs[j]? = some y) : samN (fs.take (min (j + 1) k)) x = samN (fs.take (min j k)) x + if y = x ∧ j < k then 1 else 0 := by
  by_cases h : j < k
  · rw [Nat.min_eq_left (by omega), Nat.min_eq_left (by omega), samN_step x hy]
    by_cases hx : y = x
    · rw [if_pos hx, if_pos ⟨hx, h⟩]
    · rw [if_neg hx, if_neg (fun hh => hx hh.1)]
  · rw [Nat.min_eq_right (by omega), Nat.min_eq_right (by omega), if_neg (fun hh => h hh.2)]; rfl
set_option maxRecDepth 100000 in
set_option maxHeartbeats 8000000 in
theorem spec_PrizesWon_c (N B F G : Int) (A : Option Addr) (n c : Nat) (S : List Int) (A' : Option Addr) (m d : Nat) (fs : List Int) (w : World) (hn : S.length = n) (hm : n ≤ 1048576) (hr : RI w A S) (hn' : fs.length = m) (hm' : m ≤ 1048576) (hr' : RI w A' fs) :
    Calls Try.prog 54 #[.agg #[.int .i64 N, .int .i64 B, .int .i64 F, .int .i64 G, .slice A n c], .slice A' m d] w (LR w (pwV N B F G S fs) (pwE N B F G S fs)) := by
  have HN := Lib.hid hn
  have HN' := Lib.hid hn'
  have HX0 := Lib.hid (E5.new 58 w N B F G A n c)
  by_cases hE : pwE N B F G S fs = 0
  · have h : evB N B F G S = true := by
      by_cases h : evB N B F G S = true
      · exact h
      · unfold pwE at hE; rw [if_neg h] at hE; exact absurd hE (by decide)
    have hf : ((fs.length : Int) == N && finB fs) = true := by
      by_cases hf : ((fs.length : Int) == N && finB fs) = true
      · exact hf
      · unfold pwE at hE; rw [if_pos h, if_neg hf] at hE; exact absurd hE (by decide)
    have hok := ev_ok h
    have hev := (evB_iff.1 h).2.2.2.2.1
    have hN60 := (evB_iff.1 h).1
    have hV : pwV N B F G S fs = pwL (payL (poolI N B G) S) fs := by unfold pwV; rw [if_pos ⟨h, hf⟩]
    have HE := Lib.hid hE
    rw [hn'] at hf
    obtain ⟨hNm, hfin⟩ : (m : Int) = N ∧ finB fs = true := by simpa using hf
    subst hNm
    obtain ⟨pays, hp⟩ : ∃ pays, payL (poolI m B G) S = pays := ⟨_, rfl⟩
    rw [hp] at hV
    have HV := Lib.hid hV
    have HP := Lib.hid hp
    have HPL := Lib.hid (show pays.length = n by rw [← hp, payL_len]; exact hn)
    obtain ⟨u0, u1, u2⟩ := pay_law hok.q0 hok.q1 hok.n1 hok.s (evB_iff.1 h).2.2.2.2.2.2.1 (evB_iff.1 h).2.2.2.2.2.2.2
    rw [hp] at u1
    have HPS := Lib.hid (show ∀ x ∈ pays, 0 ≤ x ∧ x ≤ 2000000 from u1)
    have HFIN := Lib.hid hfin
    have HOK := Lib.hid hok
    have m60 : m ≤ 60 := by omega
    have m2 : 2 ≤ m := by omega
    have n1 : 1 ≤ n := by omega
    have HW := Lib.hid (show (pwL pays fs).length = m by simp [pwL, hn'])
    obtain ⟨i0, hi, hz0, hz1, hz2⟩ := info_parts info_int
    clear hn hn' hV hp hfin hok hev h hf u0 u1 u2 hN60 hE
    go_enter Try.func54, Try.ntmps54
    go_wp2_with fail
    refine (spec_l31Code_c m B F G A n c S A' m d fs _ HN.out hm (hr.boxed _) HN'.out hm' (hr'.boxed _)).mono ?_
    rintro e w1 ⟨rfl, b1⟩
    rw [HE.out]
    have X1 := Lib.hid (HX0.out.below b1)
    have BW1 := Lib.hid ((below_box w (.cells #[.int .i64 m, .int .i64 B, .int .i64 F, .int .i64 G, .slice A n c] 58)).trans (b1.mono (by simp)))
    obtain ⟨c0, c1, c2, c3, c4⟩ := X1.out.cells
    clear b1
    go_wp2_with fail
    refine (spec_l31Payouts_c m B F G A n c S _ HN.out (hr.below BW1.out) HOK.out).mono ?_
    rintro e w2 ⟨gp, cp, rfl, hop, b2⟩
    rw [HP.out] at hop
    have BW2 := Lib.hid (below_step BW1.out b2 BW1.out.size)
    have HOP := Lib.hid hop
    have hz2' := b2.size
    clear b2 hop c0 c1 c2 c3 c4 X1 HX0
    go_wp2_with (at_make; refine wpList_make_full _ rfl _ _ _ rfl w2.heap.size 2 i0 _ 1 Try.underlying22 hi hz0 hz1 _ _ _ _ m rfl rfl rfl rfl (by rw [hz2]; omega) (by unfold maxLen; omega) (Nat.le_refl _) ?_; intro w3 hown3 hg3; have B3 : Hid (Below w2.heap.size w2 w3) := Lib.hid ((Below.refl _ _).grown hg3 (Nat.le_refl _) (by simp)); have RO3 := Lib.hid hown3; clear hown3 hg3)
    have hrow3 := RO3.out
    rw [Nat.mul_one, show (Value.int IntKind.i64 0).cells = #[Value.int IntKind.i64 0] from rfl, toList_madeCells_one, show List.replicate m (Value.int IntKind.i64 0) = (List.replicate m (0 : Int)).map (.int .i64) from by simp] at hrow3
    have HR3 := Lib.hid (OI.exact (OI.of_row hrow3))
    clear hrow3 RO3 hi hz0 hz1 hz2
    obtain ⟨G2, hG2⟩ : ∃ G2, w2.heap.size = G2 := ⟨_, rfl⟩
    rw [hG2] at HR3
    rw [hG2]
    have hG2l := (OI.lt HR3.out (by simp; omega)).2.2
    have hwG : w.heap.size ≤ G2 := by have := BW2.out.size; omega
    have BW3 := Lib.hid (below_step BW2.out B3.out BW2.out.size)
    have HOP3 := Lib.hid (HOP.out.below B3.out)
    rcases hr'.split with h0 | ⟨bf, of, rfl, hbf, hcf⟩
    · exfalso; have := HN'.out; omega
    rcases HOP3.out.ri.split with h0 | ⟨b', off', e', hgp, hcp⟩
    · exfalso; have := HPL.out; omega
    obtain ⟨rfl, rfl⟩ : b' = gp ∧ off' = 0 := by injection e' with e'; injection e' with a b; exact ⟨a.symm, b.symm⟩
    have hgpl : b' < G2 := by
      have := OI.lt HOP.out (by rw [HPL.out]; omega)
      omega
    clear e' HOP B3
    go_wp2_with fail
    go_loopw [9] (fun i wr => ∃ k : Nat, i = .int .i64 k ∧ k ≤ m ∧ Hid (OI wr G2 (G2 + 1) (some ⟨G2, 0, none⟩) ((pwL pays fs).take k ++ List.replicate (m - k) 0)) ∧ Hid (Kept G2 (G2 + 1) w3 wr)) (fun i _ => m - (intOf i).toNat)
    case atStart => exact ⟨0, rfl, Nat.zero_le _, Lib.hid (by simpa using HR3.out), Lib.hid (Kept.refl _ _ _)⟩
    case round =>
      clear HR3
      obtain ⟨k, rfl, hk, ho, hkp⟩ := hrel
      by_cases hlt : k < m
      · have i1 : (k : Int) < (m : Int) := by omega
        have i2 : (0 : Int) ≤ (k : Int) := by omega
        obtain ⟨wo, rfl⟩ : ∃ wo : World, wo = wr := ⟨_, rfl⟩
        obtain ⟨x, hx⟩ := get_some (zs := fs) (k := k) (by rw [HN'.out]; exact hlt)
        obtain ⟨x0, x1⟩ := fin_bd HFIN.out (List.mem_of_getElem? hx)
        have hsp := mem_sam hx
        rw [HN'.out] at x1
        obtain ⟨xn, rfl⟩ : ∃ xn : Nat, x = xn := ⟨x.toNat, by omega⟩
        have HFC := Lib.hid (fun (j : Nat) (y : Int) (hy : fs[j]? = some y) => (World.cell?_of_block (a := ⟨bf, of + j, none⟩) (hkp.out.block bf (Nat.lt_of_lt_of_le hbf BW3.out.size) (by omega))).trans ((BW3.out.cell (p := ⟨bf, of + j, none⟩) hbf).trans (hcf.out j y hy)))
        have HPC := Lib.hid (fun (j : Nat) (y : Int) (hy : pays[j]? = some y) => (World.cell?_of_block (a := ⟨b', 0 + j, none⟩) (hkp.out.block b' (by omega) (by omega))).trans (hcp.out j y hy))
        have hck := HFC.out k xn hx
        have HX := Lib.hid hx
        clear hx
        have HXD := Lib.hid (show fs.getD k 0 = (xn : Int) by simp [List.getD, HX.out])
        go_wp2_with fail
        go_loopw [10, 11, 12] (fun s b u wr => ∃ j q a c : Nat, s = .int .i64 a ∧ b = .int .i64 c ∧ u = .int .i64 j ∧ j ≤ m ∧ Hid (a = samN (fs.take j) xn) ∧ Hid (c = samN (fs.take (min j k)) xn) ∧ a ≤ j ∧ c ≤ j ∧ wr = wo.drewN q) (fun _ _ u _ => m - (intOf u).toNat)
        case atStart => exact ⟨0, 0, 0, 0, rfl, rfl, rfl, Nat.zero_le _, Lib.hid (by simp [samN]), Lib.hid (by simp [samN]), Nat.le_refl _, Nat.le_refl _, rfl⟩
        case round =>
          obtain ⟨j, q, a, c, rfl, rfl, rfl, hj, ha, hc, haj, hcj, rfl⟩ := hrel
          by_cases hlj : j < m
          · obtain ⟨y, hy⟩ := get_some (zs := fs) (k := j) (by rw [HN'.out]; exact hlj)
            have hcy := HFC.out j y hy
            have j1 : (j : Int) < (m : Int) := by omega
            have j2 : (0 : Int) ≤ (j : Int) := by omega
            have HS1 := Lib.hid (samN_step (xn : Int) hy)
            have HS2 := Lib.hid (bef_step (x := (xn : Int)) (k := k) hy)
            clear hy
            by_cases hyx : y = (xn : Int)
            · have ek : ((y : Int) == (xn : Int)) = true := by simp [hyx]
              have N1 := Lib.hid (show samN (fs.take (j + 1)) xn = a + 1 by rw [HS1.out, if_pos hyx, ← ha.out])
              by_cases hjk : j < k
              · have N2 := Lib.hid (show samN (fs.take (min (j + 1) k)) xn = c + 1 by rw [HS2.out, if_pos ⟨hyx, hjk⟩, ← hc.out])
                have j3 : (j : Int) < (k : Int) := by omega
                clear hyx
                go_wp2_with fail
                go_quiet (fail)
                go_wp2_with fail
                go_roundw
                case rel => exact ⟨j + 1, _, a + 1, c + 1, by go_num, by go_num, by go_num, by omega, Lib.hid N1.out.symm, Lib.hid N2.out.symm, by omega, by omega, rfl⟩
                case measure => simp [intOf]; omega
              · have N2 := Lib.hid (show samN (fs.take (min (j + 1) k)) xn = c by rw [HS2.out, if_neg (fun h => hjk h.2), ← hc.out]; rfl)
                have j3 : ¬ (j : Int) < (k : Int) := by omega
                clear hyx
                go_wp2_with fail
                go_quiet (fail)
                go_wp2_with fail
                go_roundw
                case rel => exact ⟨j + 1, _, a + 1, c, by go_num, rfl, by go_num, by omega, Lib.hid N1.out.symm, Lib.hid N2.out.symm, by omega, by omega, rfl⟩
                case measure => simp [intOf]; omega
            · have ek : ((y : Int) == (xn : Int)) = false := by simp [hyx]
              have N1 := Lib.hid (show samN (fs.take (j + 1)) xn = a by rw [HS1.out, if_neg hyx, ← ha.out]; rfl)
              have N2 := Lib.hid (show samN (fs.take (min (j + 1) k)) xn = c by rw [HS2.out, if_neg (fun h => hyx h.1), ← hc.out]; rfl)
              clear hyx
              go_wp2_with fail
              go_quiet (fail)
              go_wp2_with fail
              go_roundw
              case rel => exact ⟨j + 1, _, a, c, rfl, rfl, by go_num, by omega, Lib.hid N1.out.symm, Lib.hid N2.out.symm, by omega, by omega, rfl⟩
              case measure => simp [intOf]; omega
          · obtain rfl : j = m := by omega
            have HA := Lib.hid (show samN fs xn = a by rw [ha.out, show fs.take j = fs from List.take_of_length_le (by rw [HN'.out]; exact Nat.le_refl _)])
            have HB := Lib.hid (show befN fs k = c by unfold befN; rw [HXD.out, hc.out, Nat.min_eq_right (by omega)])
            have a1 : 1 ≤ a := by have := HA.out; omega
            have HPW := Lib.hid (show (pwL pays fs)[k]? = some (segL pays xn a / (a : Int) + if (c : Int) < segL pays xn a % (a : Int) then 1 else 0) by
              rw [show (pwL pays fs)[k]? = some (pwI pays fs k) by simp [pwL, HN'.out, hlt]]
              unfold pwI
              rw [HXD.out, HB.out, HA.out, Int.toNat_natCast])
            clear ha hc
            go_wp2_with fail
            go_loop [13, 14] (fun s p => ∃ t : Nat, s = .int .i64 (segL pays xn t) ∧ p = .int .i64 ((xn : Int) + t) ∧ t ≤ a) (fun _ p => xn + a - (intOf p).toNat)
            case atStart => exact ⟨0, by rw [segL_zero], by simp, Nat.zero_le _⟩
            case round =>
              obtain ⟨t, rfl, rfl, hta⟩ := hrel
              obtain ⟨sg0, sg1⟩ := segL_bd (p := pays) (B := 2000000) HPS.out (by omega) xn t
              have sg2 : segL pays xn t ≤ 200000000 := by omega
              obtain ⟨SG, hSG⟩ : ∃ SG, segL pays xn t = SG := ⟨_, rfl⟩
              have HSG := Lib.hid hSG
              rw [hSG] at sg0 sg1 sg2
              rw [hSG]
              clear hSG sg1
              have t0 : (0 : Int) ≤ (xn : Int) + (t : Int) := by omega
              have t9 : ((xn : Int) + (t : Int)).toNat = xn + t := by omega
              by_cases h12 : t < a ∧ xn + t < n
              · obtain ⟨h1, h2⟩ := h12
                have t1 : (xn : Int) + (t : Int) < (xn : Int) + (a : Int) := by omega
                have t2 : (xn : Int) + (t : Int) < (n : Int) := by omega
                obtain ⟨v, hv⟩ := get_some (zs := pays) (k := xn + t) (by rw [HPL.out]; exact h2)
                have hcv := HPC.out (xn + t) v hv
                rw [Nat.zero_add] at hcv
                obtain ⟨v0, v1⟩ := HPS.out v (List.mem_of_getElem? hv)
                have HSN := Lib.hid (show segL pays xn (t + 1) = SG + v by rw [segL_step, HSG.out, show pays.getD (xn + t) 0 = v by simp [List.getD, hv]])
                clear hv
                go_wp2_with fail
                go_round
                case rel => exact ⟨t + 1, by rw [HSN.out], by go_num, by omega⟩
                case measure => simp [intOf]; omega
              · have HSE := Lib.hid (show segL pays xn a = SG by
                  rw [← HSG.out]
                  by_cases h1 : t < a
                  · exact segL_over (by rw [HPL.out]; omega) (by omega)
                  · rw [show t = a by omega])
                rw [HSE.out] at HPW
                have e1 : SG.tdiv (a : Int) = SG / (a : Int) := Int.tdiv_eq_ediv_of_nonneg sg0
                have e2 : SG.tmod (a : Int) = SG % (a : Int) := Int.tmod_eq_emod_of_nonneg sg0
                have e3 : ¬ (a : Int) = 0 := by omega
                have q0 : 0 ≤ SG / (a : Int) := Int.ediv_nonneg sg0 (by omega)
                have q1 : SG / (a : Int) ≤ SG := Int.ediv_le_self _ sg0
                have HOQ := Lib.hid (show OI (wo.drewN q) G2 (G2 + 1) (some ⟨G2, 0, none⟩) ((pwL pays fs).take k ++ List.replicate (j - k) 0) from ho.out)
                have HKQ := Lib.hid (show Kept G2 (G2 + 1) w3 (wo.drewN q) from hkp.out.drewN q)
                obtain ⟨d0, d1⟩ := HOQ.out.cellX (mix2_get HW.out hlt)
                have O1 := Lib.hid (HOQ.out.set (j := k) (by simp [HW.out]; omega) (SG / (a : Int)))
                have K1 := Lib.hid (HKQ.out.setCell (p := ⟨G2, k, none⟩) (.inl ⟨Nat.le_refl _, by simp⟩) (.int .i64 (SG / (a : Int))))
                rw [Nat.zero_add] at d0 d1 O1
                have HK := Lib.hid (show k < j from hlt)
                rcases (show t = a ∨ (t < a ∧ ¬ xn + t < n) by omega) with h1 | ⟨h1, h2⟩
                · have t1 : ¬ (xn : Int) + (t : Int) < (xn : Int) + (a : Int) := by omega
                  clear h12 h1
                  by_cases hb : (c : Int) < SG % (a : Int)
                  · have HPV := Lib.hid (show (pwL pays fs)[k]? = some (SG / (a : Int) + 1) by rw [HPW.out, if_pos hb])
                    have O2 := Lib.hid (O1.out.set (j := k) (by simp [HW.out]; omega) (SG / (a : Int) + 1))
                    rw [Nat.zero_add, List.set_set, mix2_set HW.out HK.out HPV.out] at O2
                    have K2 := Lib.hid (K1.out.setCell (p := ⟨G2, k, none⟩) (.inl ⟨Nat.le_refl _, by simp⟩) (.int .i64 (SG / (a : Int) + 1)))
                    go_wp2_with fail
                    go_roundw
                    case rel => exact ⟨k + 1, by go_num, by omega, O2, K2⟩
                    case measure => simp [intOf]; omega
                  · have HPV := Lib.hid (show (pwL pays fs)[k]? = some (SG / (a : Int)) by rw [HPW.out, if_neg hb, Int.add_zero])
                    have O2 := O1
                    rw [mix2_set HW.out HK.out HPV.out] at O2
                    go_wp2_with fail
                    go_roundw
                    case rel => exact ⟨k + 1, by go_num, by omega, O2, K1⟩
                    case measure => simp [intOf]; omega
                · have t1 : (xn : Int) + (t : Int) < (xn : Int) + (a : Int) := by omega
                  have t2 : ¬ (xn : Int) + (t : Int) < (n : Int) := by omega
                  clear h12 h1 h2
                  by_cases hb : (c : Int) < SG % (a : Int)
                  · have HPV := Lib.hid (show (pwL pays fs)[k]? = some (SG / (a : Int) + 1) by rw [HPW.out, if_pos hb])
                    have O2 := Lib.hid (O1.out.set (j := k) (by simp [HW.out]; omega) (SG / (a : Int) + 1))
                    rw [Nat.zero_add, List.set_set, mix2_set HW.out HK.out HPV.out] at O2
                    have K2 := Lib.hid (K1.out.setCell (p := ⟨G2, k, none⟩) (.inl ⟨Nat.le_refl _, by simp⟩) (.int .i64 (SG / (a : Int) + 1)))
                    go_wp2_with fail
                    go_roundw
                    case rel => exact ⟨k + 1, by go_num, by omega, O2, K2⟩
                    case measure => simp [intOf]; omega
                  · have HPV := Lib.hid (show (pwL pays fs)[k]? = some (SG / (a : Int)) by rw [HPW.out, if_neg hb, Int.add_zero])
                    have O2 := O1
                    rw [mix2_set HW.out HK.out HPV.out] at O2
                    go_wp2_with fail
                    go_roundw
                    case rel => exact ⟨k + 1, by go_num, by omega, O2, K1⟩
                    case measure => simp [intOf]; omega
      · obtain rfl : k = m := by omega
        have ho2 := ho.out
        rw [List.take_of_length_le (by rw [HW.out]; exact Nat.le_refl _), Nat.sub_self, List.replicate_zero, List.append_nil] at ho2
        have HO := Lib.hid ho2
        have HBF := Lib.hid (BW3.out.trans (hkp.out.below (B := w.heap.size) hwG BW3.out.size))
        have hzz := hkp.out.size
        clear ho ho2
        go_wp2_with fail
        go_ret2
        rw [HV.out, HE.out]
        exact LR.mk rfl HW.out hm' (HO.out.widen hwG (by omega)) HBF.out
  · have HV := Lib.hid (show pwV N B F G S fs = [] by
      unfold pwV
      rw [if_neg]
      rintro ⟨h1, h2⟩
      exact hE (by unfold pwE; rw [if_pos h1, if_pos h2]))
    obtain ⟨E, hE2⟩ : ∃ E, pwE N B F G S fs = E := ⟨_, rfl⟩
    rw [hE2] at hE
    have HE := Lib.hid hE2
    have hB : (E == 0) = false := by simp [hE]
    have hB2 : (E != 0) = true := by simp [hE]
    rw [HE.out]
    clear hE2 hn hn'
    go_enter Try.func54, Try.ntmps54
    go_wp2_with fail
    refine (spec_l31Code_c N B F G A n c S A' m d fs _ HN.out hm (hr.boxed _) HN'.out hm' (hr'.boxed _)).mono ?_
    rintro e w1 ⟨rfl, b1⟩
    rw [HE.out]
    go_wp2_with fail
    go_ret2
    rw [HV.out]
    exact LR.mk rfl rfl (Nat.zero_le _) (OI.nil _ _ _ _) ((below_box _ _).trans (b1.mono (by simp)))
end Go.Proofs.Ythpgkngkmmameaa
