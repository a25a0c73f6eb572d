/-
  The contract of PrizesWon of the program. Conditions: at most 1048576 shares and finishes.
-/
import Derived.Test.YthpgkngkmmameaaWonFacts
import Derived.Test.YthpgkngkmmameaaRowI
import Derived.Test.YthpgkngkmmameaaDivide
import Derived.Laws.CopyOwn
import Derived.Laws.CopyRow
namespace Go.Proofs.Ythpgkngkmmameaa
open Go.RowKit
set_option linter.unusedVariables false
theorem Row.full {w : World} {base g n : Nat} {zs : List Int} (h : Row w base (some ⟨g, 0, none⟩) n n zs) : w.heap[g]? = some (.cells (zs.map (Value.int .i64)).toArray 2 (0, 0)) := by
  rcases h.2 with ⟨hv, _⟩ | ⟨g', cap, cur, hv, _, hg, h1, h2, h3, h4⟩
  · cases hv
  · injection hv with hv e1 e2
    injection hv with hv
    injection hv with hv
    subst hv
    subst e2
    rw [List.take_of_length_le (by rw [Array.length_toList]; omega)] at h4
    rw [hg, ← h4]
theorem OI.full {w : World} {g : Nat} {zs : List Int} (h : w.heap[g]? = some (.cells (zs.map (Value.int .i64)).toArray 2 (0, 0))) : OI w g (g + 1) (some ⟨g, 0, none⟩) zs := by
  refine .inr ⟨g, 0, rfl, Nat.le_refl _, Nat.lt_succ_self _, (Array.getElem?_eq_some_iff.1 h).1, fun j x hx => ?_, fun j => frozen_of_row w g j _ _ h⟩
  rw [Nat.zero_add, cell_of_row w g j _ _ _ h]
  simp [hx]
theorem splice_head (n : Nat) (l : List Int) (h : l.length ≤ n) : splice ((List.replicate n (0 : Int)).map (Value.int .i64)) 0 (l.map (Value.int .i64)) = (l ++ List.replicate (n - l.length) 0).map (Value.int .i64) := by
  simp [splice]
def padL (n : Nat) (l : List Int) : List Int := l ++ List.replicate (n - l.length) 0
theorem padL_get {n : Nat} {l : List Int} {j : Nat} (h : l.length ≤ n) (hj : j < n) : (padL n l)[j]? = some (l.getD j 0) := by
  unfold padL
  by_cases hl : j < l.length
  · rw [List.getElem?_append_left hl]; exact get_getD hl
  · rw [List.getElem?_append_right (by omega), show l.getD j 0 = 0 by simp [List.getD, List.getElem?_eq_none (show l.length ≤ j by omega)], List.getElem?_replicate, if_pos (by omega)]
def pwE (N B F G : Int) (S fs : List Int) : Int := if evB N B F G S = true then (if ((fs.length : Int) == N && finB fs) = true then 0 else 2) else 1
def pwV (N B F G : Int) (S fs : List Int) : List Int := if evB N B F G S = true ∧ ((fs.length : Int) == N && finB fs) = true then pwL (payL (poolI N B G) S) fs else []
theorem RowI.addr {w : World} {base : Nat} {A : Option Addr} {n c : Nat} {zs : List Int} (h : RowI w base A n c zs) (hn : 1 ≤ n) : ∃ b, A = some ⟨b, 0, none⟩ ∧ base ≤ b := by
  rcases h.2 with ⟨_, h0⟩ | ⟨g, cap, cur, hv, hb, _⟩
  · omega
  · injection hv with hv _ _
    exact ⟨g, hv, hb⟩
theorem below_al' (w : World) (o : Obj) : Below w.heap.size w (w.alloc o) := (Below.refl _ _).alloc (Nat.le_refl _) o
theorem OI.belowB {w w' : World} {lo hi base : Nat} {A : Option Addr} {zs : List Int} (h : OI w lo hi A zs) (hb : Below base w w') (hh : hi ≤ base) : OI w' lo hi A zs := by
  rcases h with h | ⟨b, off, e, l1, l2, h2, h3, h4⟩
  · exact .inl h
  · have hk : w'.heap[b]? = w.heap[b]? := hb.block b (by omega)
    exact .inr ⟨b, off, e, l1, l2, Nat.lt_of_lt_of_le h2 hb.size, fun j x hx => (World.cell?_of_block (a := ⟨b, off + j, none⟩) hk).trans (h3 j x hx), fun j => (World.frozen?_of_block (a := ⟨b, j, none⟩) hk).trans (h4 j)⟩
theorem DivSt.belowB {w wr w' : World} {g1 g2 base : Nat} {ss rs : List Int} (h : DivSt w wr g1 g2 ss rs) (hb : Below base wr w') (h1 : g1 < base) (h2 : g2 < base) : DivSt w w' g1 g2 ss rs :=
  ⟨h.ne, h.s.belowB hb (by omega), h.r.belowB hb (by omega), h.below.trans (hb.mono (by have := h.l1; omega)), h.l1, h.l2⟩
theorem DivSt.stepB {w wr w' : World} {g1 g2 : Nat} {ss rs : List Int} (h : DivSt w wr g1 g2 ss rs) (hb : Below wr.heap.size wr w') (h1 : g1 < wr.heap.size) (h2 : g2 < wr.heap.size) : DivSt w w' g1 g2 ss rs := h.belowB hb h1 h2
set_option maxRecDepth 100000 in
set_option maxHeartbeats 8000000 in
theorem impl_PrizesWon_c (N B F G : Int) (A : Option Addr) (n c : Nat) (S : List Int) (A' : Option Addr) (m d : Nat) (fs : List Int) (w : World) (hn : S.length = n) (hm : n ≤ 1048576) (hr : RI w A S) (hn' : fs.length = m) (hm' : m ≤ 1048576) (hr' : RI w A' fs) :
    Calls Try.prog 55 #[.agg #[.int .i64 N, .int .i64 B, .int .i64 F, .int .i64 G, .slice A n c], .slice A' m d] w (LR w (pwV N B F G S fs) (pwE N B F G S fs)) := by
  have HN := Lib.hid hn
  have HN' := Lib.hid hn'
  have X0 := E5.new 58 w N B F G A n c
  cases h : evB N B F G S
  · have HV := Lib.hid (show pwV N B F G S fs = [] by simp [pwV, h])
    have HE := Lib.hid (show pwE N B F G S fs = 1 by simp [pwE, h])
    clear hn hn'
    go_enter Try.func55, Try.ntmps55
    go_wp2_with fail
    refine (impl_IsEvent_c _ _ _ _ _ _ _ S _ HN.out hm (hr.boxed _)).mono ?_
    rintro e w1 ⟨rfl, b1⟩
    rw [h]
    go_wp2_with fail
    go_ret2
    rw [HV.out, HE.out]
    exact LR.mk rfl rfl (Nat.zero_le _) (OI.nil _ _ _ _) ((below_box _ _).trans (b1.mono (by simp)))
  have hok := ev_ok h
  have hev := (evB_iff.1 h).2.2.2.2.1
  have hN60 := (evB_iff.1 h).1
  by_cases hf : ((m : Int) == N && finB fs) = true
  · have hV : pwV N B F G S fs = pwL (payL (poolI N B G) S) fs := by unfold pwV; rw [hn', if_pos ⟨h, hf⟩]
    have HE := Lib.hid (show pwE N B F G S fs = 0 by unfold pwE; rw [hn', if_pos h, if_pos hf])
    obtain ⟨hNm, hfin⟩ : (m : Int) = N ∧ finB fs = true := by simpa using hf
    subst hNm
    obtain ⟨pays, hp⟩ : ∃ pays, payL (poolI m B G) S = pays := ⟨_, rfl⟩
    rw [hp] at hV
    have HV := Lib.hid hV
    have HP := Lib.hid hp
    have HPL := Lib.hid (show pays.length ≤ m by rw [← hp, payL_len]; have := hev.2.1; omega)
    obtain ⟨u0, u1, u2⟩ := pay_law hok.q0 hok.q1 hok.n1 hok.s (evB_iff.1 h).2.2.2.2.2.2.1 (evB_iff.1 h).2.2.2.2.2.2.2
    rw [hp] at u0 u1
    have HPS := Lib.hid (show (∀ x ∈ pays, 0 ≤ x ∧ x ≤ 2000000) ∧ sumL pays ≤ 1000000 from ⟨u1, by have := hok.q1; rw [← sumD_sumL, u0]; exact this⟩)
    have HFIN := Lib.hid hfin
    have HOK := Lib.hid hok
    have HEV := Lib.hid h
    have HF := Lib.hid hf
    have m60 : m ≤ 60 := by omega
    have m2 : 2 ≤ m := by omega
    have HX0 := Lib.hid X0
    obtain ⟨i0, hi, hz0, hz1, hz2⟩ := info_parts info_int
    clear hn hn' hV hp hfin hok hev h hf u0 u1 u2 X0 hN60
    go_enter Try.func55, Try.ntmps55
    go_wp2_with fail
    refine (impl_IsEvent_c _ _ _ _ _ _ _ S _ HN.out hm (hr.boxed _)).mono ?_
    rintro e w1 ⟨rfl, b1⟩
    rw [HEV.out]
    have X1 := Lib.hid (HX0.out.below b1)
    have BW1 := Lib.hid ((below_box w (.cells #[.int .i64 m, .int .i64 B, .int .i64 F, .int .i64 G, .slice A n c] 58)).trans (b1.mono (by simp)))
    obtain ⟨c0, c1, c2, c3, c4⟩ := X1.out.cells
    clear b1
    go_wp2_with fail
    refine (impl_areFinishes_c _ _ _ _ _ _ _ _ _ _ fs _ HN'.out hm' (hr'.below BW1.out)).mono ?_
    rintro e w2 ⟨rfl, b2⟩
    rw [HF.out]
    have X2 := Lib.hid (X1.out.below b2)
    have BW2 := Lib.hid (below_step BW1.out b2 BW1.out.size)
    clear b2 c0 c1 c2 c3 c4
    obtain ⟨c0, c1, c2, c3, c4⟩ := X2.out.cells
    have tok : True := trivial
    go_wp2_with (at_make; have _t := tok; refine wpList_make_full _ rfl _ _ _ rfl w2.heap.size 2 i0 _ 1 Try.underlying22 hi hz0 hz1 _ _ _ _ m rfl rfl rfl rfl (by rw [hz2]; omega) (by unfold maxLen; omega) (Nat.le_refl _) ?_; intro w3 hown3 hg3; have B3 : Hid (Below w2.heap.size w2 w3) := Lib.hid ((Below.refl _ _).grown hg3 (Nat.le_refl _) (by simp)); have X3 := Lib.hid (X2.out.below B3.out); clear c0 c1 c2 c3 c4 tok; obtain ⟨c0, c1, c2, c3, c4⟩ := X3.out.cells; have RO3 := Lib.hid hown3; clear hown3 hg3)
    have hs23 := B3.out.size
    have BW3 := Lib.hid (below_step BW2.out B3.out BW2.out.size)
    have HR3 := Lib.hid (hr.below BW3.out)
    have hrow3 := RO3.out
    rw [Nat.mul_one, show (Value.int IntKind.i64 0).cells = #[Value.int IntKind.i64 0] from rfl, toList_madeCells_one, show List.replicate m (Value.int IntKind.i64 0) = (List.replicate m (0 : Int)).map (.int .i64) from by simp] at hrow3
    have HR3' := Lib.hid (show Row w3 w2.heap.size (some ⟨w2.heap.size, 0, none⟩) m m (List.replicate m 0) from hrow3)
    clear hrow3 RO3
    refine (impl_payoutsOf_c m B F G _ _ _ S _ HN.out HR3.out HOK.out).mono ?_
    rintro e w4 ⟨gp, rfl, hop, b4⟩
    rw [HP.out] at hop
    have X4 := Lib.hid (X3.out.below b4)
    have B4 := Lib.hid b4
    have HOP := Lib.hid hop
    have HFUL := Lib.hid (Row.full (HR3'.out.below b4))
    have BW4 := Lib.hid (below_step BW3.out b4 BW3.out.size)
    have hz4 := b4.size
    have hw2 := BW2.out.size
    have hG1 := (OI.lt HR3'.out.oi (by simp; omega)).2.1
    have hpn := HPL.out
    have hpl1 : pays.length = n := by rw [← HP.out, payL_len]; exact HN.out
    have HCS := Lib.hid (show ∀ (j : Nat) (v : Value), (pays.map (Value.int .i64))[j]? = some v → w4.cell? ((⟨gp, 0, none⟩ : Addr).add j) = some v by
      intro j v hv
      rw [List.getElem?_map] at hv
      cases hx : pays[j]? with
      | none => rw [hx] at hv; cases hv
      | some x =>
        rw [hx] at hv
        injection hv with hv
        subst hv
        rw [Addr.add_lit]
        exact (HOP.out.cellX hx).1)
    clear hop b4 c0 c1 c2 c3 c4
    obtain ⟨c0, c1, c2, c3, c4⟩ := X4.out.cells
    obtain ⟨G1, hG1e⟩ : ∃ G1, w2.heap.size = G1 := ⟨_, rfl⟩
    rw [hG1e] at HFUL hG1 hs23
    rw [hG1e]
    obtain ⟨w5, hcp, hh5, hb5⟩ : ∃ w5 : World, (Builtin.copy_ #[22, 22] 3 #[.slice (some ⟨G1, 0, none⟩) m m, .slice (some ⟨gp, 0, none⟩) n n]).run Try.prog w4 = .ok (.int .i64 n) w5 ∧ Hid (w5.heap[G1]? = some (.cells ((padL m pays).map (Value.int .i64)).toArray 2 (0, 0))) ∧ Hid (Below G1 w4 w5) := by
      have hmin : (pays.map (Value.int .i64)).length = Nat.min n m := by rw [List.length_map, hpl1]; exact (Nat.min_eq_left (by omega)).symm
      have hrun := run_copy_row (P := Try.prog) w4 22 22 3 2 G1 0 m m ⟨gp, 0, none⟩ n n ((List.replicate m (0 : Int)).map (Value.int .i64)).toArray 2 (pays.map (Value.int .i64)) Try.underlying22 (by kernel_rfl) HFUL.out hmin HCS.out (by simp; omega) (by
        intro v hv
        obtain ⟨x, -, rfl⟩ := List.mem_map.1 hv
        rfl)
      have e : (goInt (pays.map (Value.int .i64)).length : Value) = .int .i64 n := by rw [List.length_map, hpl1]; rfl
      rw [e] at hrun
      refine ⟨_, hrun, Lib.hid ?_, Lib.hid (below_setRow (Below.refl _ _) (Nat.le_refl _) _)⟩
      rw [setRow_heap w4 G1 _ _ _ _ HFUL.out]
      have := splice_head m pays hpn
      unfold splice at this
      simp only [List.take_zero, List.nil_append, Nat.zero_add] at this ⊢
      unfold padL
      rw [← this]
    have X5 := Lib.hid (show E5 58 w5 w.heap.size m B F G A n c from (hb5.out.block _ (by have := X2.out.lt; omega)).trans X4.out)
    clear c0 c1 c2 c3 c4
    obtain ⟨c0, c1, c2, c3, c4⟩ := X5.out.cells
    have tok3 : True := trivial
    go_wp2_with (at_make; have _t := tok3; refine wpList_make_full _ rfl _ _ _ rfl w5.heap.size 2 i0 _ 1 Try.underlying22 hi hz0 hz1 _ _ _ _ m rfl rfl rfl rfl (by rw [hz2]; omega) (by unfold maxLen; omega) (Nat.le_refl _) ?_; intro w6 hown6 hg6; have B6 : Hid (Below w5.heap.size w5 w6) := Lib.hid ((Below.refl _ _).grown hg6 (Nat.le_refl _) (by simp)); have X6 := Lib.hid (X5.out.below B6.out); clear c0 c1 c2 c3 c4 tok3 hcp; obtain ⟨c0, c1, c2, c3, c4⟩ := X6.out.cells; have RO6 := Lib.hid hown6; clear hown6 hg6)
    have hrow6 := RO6.out
    rw [Nat.mul_one, show (Value.int IntKind.i64 0).cells = #[Value.int IntKind.i64 0] from rfl, toList_madeCells_one, show List.replicate m (Value.int IntKind.i64 0) = (List.replicate m (0 : Int)).map (.int .i64) from by simp] at hrow6
    have HR6 := Lib.hid (show Row w6 w5.heap.size (some ⟨w5.heap.size, 0, none⟩) m m (List.replicate m 0) from hrow6)
    clear hrow6 RO6
    have hz5 := hb5.out.size
    have hz6 := B6.out.size
    obtain ⟨G2, hG2e⟩ : ∃ G2, w5.heap.size = G2 := ⟨_, rfl⟩
    have hw2z : w.heap.size ≤ G1 := by omega
    have BWX := Lib.hid (show Below w.heap.size w w6 from (BW4.out.trans (hb5.out.mono hw2z)).trans (B6.out.mono (by omega)))
    have z0 := Lib.hid (show wonL pays fs 0 0 = List.replicate m 0 by rw [wonL_zero (fun x hx => (fin_bd HFIN.out hx).1), HN'.out])
    have hG2l := (OI.lt HR6.out.oi (by simp; omega)).2.1
    have DS := Lib.hid (show DivSt w w6 G1 G2 (padL m pays) (wonL pays fs (0 : Nat) 0) by
      have e : ((0 : Nat) : Int) = 0 := rfl
      rw [e, z0.out]
      have a := (OI.full hh5.out).below B6.out
      have b := HR6.out.oi.exact
      rw [hG2e] at b
      exact ⟨by omega, a, b, BWX.out, by omega, by omega⟩)
    have hG16 : G1 < w6.heap.size := by omega
    have hG26 : G2 < w6.heap.size := by omega
    rw [hG2e]
    rcases hr'.split with h0 | ⟨bf, of, rfl, hbf, hcf⟩
    · exfalso; have := HN'.out; omega
    clear B3 X3 HR3 HR3' HFUL BW4 B4 X4 hb5 hh5 HR6 z0 HCS HOP X5 B6 hi hz0 hz1 hz2 BW1 BW2 BW3 X1 X2 HX0 c1 c2 c3 c4
    go_wp2_with fail
    go_loopw [34] (fun i wr => ∃ k : Nat, i = .int .i64 k ∧ k ≤ m ∧ Hid (DivSt w wr G1 G2 (padL m pays) (wonL pays fs k 0)) ∧ G1 < wr.heap.size ∧ G2 < wr.heap.size) (fun i _ => m - (intOf i).toNat)
    case atStart => exact ⟨0, rfl, Nat.zero_le _, DS, hG16, hG26⟩
    case round =>
      clear DS hG16 hG26 hG1 hG2l
      obtain ⟨k, rfl, hk, hds, hg1, hg2⟩ := hrel
      by_cases hlt : k < m
      · have i1 : (k : Int) < (m : Int) := by omega
        have i2 : (0 : Int) ≤ (k : Int) := by omega
        obtain ⟨wo, rfl⟩ : ∃ wo : World, wo = wr := ⟨_, rfl⟩
        obtain ⟨base, hbase⟩ : ∃ base, wo.heap.size = base := ⟨_, rfl⟩
        obtain ⟨WW, hWW⟩ : ∃ WW, wonL pays fs k 0 = WW := ⟨_, rfl⟩
        rw [hWW] at hds
        rw [hbase] at hg1 hg2
        have hwb : w.heap.size ≤ base := by have := hds.out.below.size; omega
        have hSAM := Lib.hid (fun j => samN_le fs k j)
        go_wp2_with fail
        go_loopw [9, 10, 39] (fun s t u wr => ∃ (j cnt c' : Nat) (GE : Option Addr), s = .slice GE cnt c' ∧ t = .int .i64 (segL pays k cnt) ∧ u = .int .i64 j ∧ j ≤ m ∧ Hid (cnt = samN (fs.take j) k) ∧ cnt ≤ m ∧ Hid (RowI wr base GE cnt c' ((ixL fs k j).map fun (i : Nat) => (i : Int))) ∧ Hid (DivSt w wr G1 G2 (padL m pays) WW) ∧ base ≤ wr.heap.size) (fun _ _ u _ => m - (intOf u).toNat)
        case atStart => exact ⟨0, 0, 0, none, rfl, by rw [segL_zero], rfl, Nat.zero_le _, Lib.hid (by simp [samN]), Nat.zero_le _, Lib.hid (RowI.nil _ _), hds, by omega⟩
        case round =>
          clear hds
          obtain ⟨j, cnt, c', GE, rfl, rfl, rfl, hj, hcnt, hcm, hrow, hds, hbz⟩ := hrel
          obtain ⟨sg0, sg1⟩ := segL_bd (p := pays) (B := 2000000) HPS.out.1 (by omega) k cnt
          have sg2 : segL pays k cnt ≤ 200000000 := by omega
          obtain ⟨SG, hSG⟩ : ∃ SG, segL pays k cnt = SG := ⟨_, rfl⟩
          have HSG := Lib.hid hSG
          rw [hSG] at sg0 sg1 sg2
          rw [hSG]
          clear hSG sg1
          by_cases hlj : j < m
          · obtain ⟨x, hx⟩ := get_some (zs := fs) (k := j) (by rw [HN'.out]; exact hlj)
            have hcx := (hds.out.below.cell (p := ⟨bf, of + j, none⟩) hbf).trans (hcf.out j x hx)
            have HX := Lib.hid hx
            have j1 : (j : Int) < (m : Int) := by omega
            have j2 : (0 : Int) ≤ (j : Int) := by omega
            by_cases hxk : x = (k : Int)
            · have HST := Lib.hid (show samN (fs.take (j + 1)) k = cnt + 1 by rw [samN_step (k : Int) hx, if_pos hxk, ← hcnt.out])
              have HIX := Lib.hid (show ixL fs k (j + 1) = ixL fs k j ++ [j] by rw [ixL_step hx, if_pos hxk])
              have hlim : k + cnt < m := by
                have h1 := fin_bd HFIN.out (List.mem_of_getElem? hx)
                have h2 := samN_all fs k (j + 1)
                rw [HST.out] at h2
                rw [hxk, HN'.out] at h1
                omega
              have HSEG := Lib.hid (show segL pays k (cnt + 1) = SG + pays.getD (k + cnt) 0 by rw [segL_step, HSG.out])
              obtain ⟨p0, -⟩ := hds.out.cells1 (padL_get (l := pays) HPL.out hlim)
              have hpb : 0 ≤ pays.getD (k + cnt) 0 ∧ pays.getD (k + cnt) 0 ≤ 2000000 := by
                by_cases hl : k + cnt < pays.length
                · exact HPS.out.1 _ (getD_mem hl)
                · rw [show pays.getD (k + cnt) 0 = 0 by simp [List.getD, List.getElem?_eq_none (show pays.length ≤ k + cnt by omega)]]; omega
              obtain ⟨v, hv⟩ : ∃ v, pays.getD (k + cnt) 0 = v := ⟨_, rfl⟩
              rw [hv] at HSEG p0 hpb
              obtain ⟨hp0, hp1⟩ := hpb
              have ek : ((x : Int) == (k : Int)) = true := by simp [hxk]
              subst hxk
              have l1 : (k : Int) + (cnt : Int) < (m : Int) := by omega
              have l2 : (0 : Int) ≤ (k : Int) + (cnt : Int) := by omega
              have l3 : ((k : Int) + (cnt : Int)).toNat = k + cnt := by omega
              have hrow' := Lib.hid (hrow.out.alloc (.cells #[.int .i64 j] 3))
              have hb1 := Lib.hid (below_al' wr (.cells #[.int .i64 j] 3))
              clear hx hv ek
              go_wp2_with (at_builtin; refine wpList_append1I rfl _ _ rfl base GE cnt c' _ rfl hrow'.out wr.heap.size 1 j rfl (by simp) (by omega) (by simp; omega) ?_; intro g3 c3 w7 hr7 hb7 hg7; have HR7 := Lib.hid hr7; have HB7 := Lib.hid hb7; clear hr7 hb7 hg7)
              go_roundw
              case rel => exact ⟨j + 1, cnt + 1, c3, _, rfl, by rw [HSEG.out], by go_num, by omega, Lib.hid (by rw [HST.out]), by omega, Lib.hid (by rw [HIX.out, List.map_append]; exact HR7.out), Lib.hid ((hds.out.stepB hb1.out (by omega) (by omega)).belowB HB7.out hg1 hg2), by have := HB7.out.size; simp at this; omega⟩
              case measure => simp [intOf]; omega
            · have HST := Lib.hid (show samN (fs.take (j + 1)) k = cnt by rw [samN_step (k : Int) hx, if_neg hxk, ← hcnt.out]; rfl)
              have HIX := Lib.hid (show ixL fs k (j + 1) = ixL fs k j by rw [ixL_step hx, if_neg hxk, List.append_nil])
              have ek : ((x : Int) == (k : Int)) = false := by simp [hxk]
              clear hx
              go_wp2_with fail
              go_roundw
              case rel => exact ⟨j + 1, cnt, c', GE, rfl, by rw [HSG.out], by go_num, by omega, Lib.hid (by rw [HST.out]), by omega, Lib.hid (by rw [HIX.out]; exact hrow.out), hds, hbz⟩
              case measure => simp [intOf]; omega
          · obtain rfl : j = m := by omega
            have HCN := Lib.hid (show cnt = samN fs k by rw [hcnt.out, show fs.take j = fs from List.take_of_length_le (by rw [HN'.out]; exact Nat.le_refl _)])
            have HIL := Lib.hid (show (ixL fs k j).length = cnt by rw [ixL_len j (by rw [HN'.out]; exact Nat.le_refl _), ← hcnt.out])
            by_cases hc0 : cnt = 0
            · have HNX := Lib.hid (show wonL pays fs ((k + 1 : Nat) : Int) 0 = WW by
                rw [show ((k + 1 : Nat) : Int) = (k : Int) + 1 by omega, ← wonL_next, ← HCN.out, hc0, hWW])
              subst hc0
              clear hcnt HCN HIL
              go_wp2_with fail
              go_roundw
              case rel => exact ⟨k + 1, by go_num, by omega, Lib.hid (by rw [HNX.out]; exact hds.out), by omega, by omega⟩
              case measure => simp [intOf]; omega
            · have hcz : ((cnt : Int) == 0) = false := by simp; omega
              have hSGT : SG ≤ 1000000 := by
                have := (segL_le_all (fun x hx => (HPS.out.1 x hx).1) k cnt).2
                have := HPS.out.2
                have := HSG.out
                omega
              have hok2 := Lib.hid (ones_ok (u := SG) (n := cnt) sg0 (by omega) (by omega) (by omega))
              have HFL := Lib.hid (show divV SG (List.replicate cnt 1) = flatL SG cnt from flat_law sg0 (by omega))
              clear hcnt
              go_wp2_with fail
              refine (impl_equalWeights_c cnt _ (by omega)).mono ?_
              rintro e w7 ⟨g7, rfl, o7, b7⟩
              have ds7 := Lib.hid (hds.out.stepB b7 (by omega) (by omega))
              have row7 := Lib.hid (RowI.below hrow.out b7)
              have z7 := b7.size
              clear b7 hds hrow
              go_wp2_with fail
              refine (impl_divided_c _ cnt cnt SG (List.replicate cnt 1) _ (by simp) (by omega) o7.ri hok2.out).mono ?_
              rintro e w8 ⟨g8, rfl, o8, b8⟩
              rw [HFL.out] at o8
              have ds8 := Lib.hid (ds7.out.stepB b8 (by omega) (by omega))
              have row8 := Lib.hid ((RowI.below row7.out b8).oi)
              have HGE := Lib.hid (RowI.addr row7.out (by omega))
              have HO8 := Lib.hid o8
              have z8 := b8.size
              clear b8 o7 o8 ds7 row7
              obtain ⟨ge, rfl, hgeb⟩ := HGE.out
              clear HGE
              go_wp2_with fail
              go_loopw [70] (fun i wr => ∃ q : Nat, i = .int .i64 q ∧ q ≤ cnt ∧ Hid (DivSt w wr G1 G2 (padL j pays) (wonL pays fs k q)) ∧ Hid (Kept G2 (G2 + 1) w8 wr) ∧ w8.heap.size ≤ wr.heap.size) (fun i _ => cnt - (intOf i).toNat)
              case atStart => exact ⟨0, rfl, Nat.zero_le _, Lib.hid (by rw [hWW]; exact ds8.out), Lib.hid (Kept.refl _ _ _), Nat.le_refl _⟩
              case round =>
                clear ds8
                obtain ⟨q, rfl, hq, hd9, hk9, hz9⟩ := hrel
                by_cases hlq : q < cnt
                · obtain ⟨i0', hix⟩ : ∃ i0, (ixL fs k j)[q]? = some i0 := ⟨_, List.getElem?_eq_getElem (by rw [HIL.out]; exact hlq)⟩
                  have hix' : (ixL fs k fs.length)[q]? = some i0' := by rw [HN'.out]; exact hix
                  have hfl := won_flat (p := pays) hix'
                  rw [Int.toNat_natCast, ← HCN.out, HSG.out] at hfl
                  obtain ⟨hil, hold⟩ := won_old (p := pays) hix'
                  have HWS := Lib.hid (wonL_step (p := pays) hix')
                  rw [HN'.out] at hil
                  obtain ⟨v, hv⟩ : ∃ v, pwI pays fs i0' = v := ⟨_, rfl⟩
                  rw [hv] at hfl HWS
                  have cf := ((HO8.out.kept hk9.out (.inl (by omega))).cellX hfl).1
                  have ce := ((row8.out.kept hk9.out (.inl (by omega))).cellX (x := (i0' : Int)) (j := q) (by rw [List.getElem?_map, hix]; rfl)).1
                  rw [Nat.zero_add] at cf ce
                  obtain ⟨d0, d1⟩ := hd9.out.cells2 hold
                  have q1 : (q : Int) < (cnt : Int) := by omega
                  have q2 : (0 : Int) ≤ (q : Int) := by omega
                  have q3 : (i0' : Int) < (j : Int) := by omega
                  have q4 : (0 : Int) ≤ (i0' : Int) := by omega
                  have DN := Lib.hid (hd9.out.set2 (j := i0') (by rw [wonL_len, HN'.out]; exact hil) v)
                  rw [HWS.out] at DN
                  have KN := Lib.hid (hk9.out.setCell (p := ⟨G2, i0', none⟩) (.inl ⟨Nat.le_refl _, by simp⟩) (.int .i64 v))
                  have ne8 : ¬ g8 = G2 := by
                    have := OI.lt HO8.out (by simp [flatL]; omega)
                    omega
                  have nee : ¬ ge = G2 := by omega
                  clear hix hix' hfl hold hv hd9
                  go_wp2_with fail
                  go_roundw
                  case rel => exact ⟨q + 1, by go_num, by omega, DN, KN, by simpa [World.setCell] using hz9⟩
                  case measure => simp [intOf]; omega
                · obtain rfl : q = cnt := by omega
                  have HNX := Lib.hid (show wonL pays fs ((k + 1 : Nat) : Int) 0 = wonL pays fs k q by
                    rw [show ((k + 1 : Nat) : Int) = (k : Int) + 1 by omega, ← wonL_next, ← HCN.out])
                  go_wp2_with fail
                  go_roundw
                  case rel => exact ⟨k + 1, by go_num, by omega, Lib.hid (by rw [HNX.out]; exact hd9.out), by omega, by omega⟩
                  case measure => simp [intOf]; omega
      · obtain rfl : k = m := by omega
        have HWE := Lib.hid (show wonL pays fs (k : Nat) 0 = pwL pays fs from wonL_end fun x hx => by
          obtain ⟨i, hi, rfl⟩ := List.getElem_of_mem hx
          have h1 := (fin_bd HFIN.out hx).2
          have h2 := mem_sam (fs := fs) (i := i) (List.getElem?_eq_getElem hi)
          rw [HN'.out] at h1
          omega)
        have HPWL := Lib.hid (show (pwL pays fs).length = k by simp [pwL, HN'.out])
        go_wp2_with fail
        go_ret2
        rw [HV.out, HE.out, ← HWE.out]
        exact LR.mk rfl (by rw [HWE.out]; exact HPWL.out) hm' (hds.out.r.widen hds.out.l2 (by omega)) hds.out.below
  · have HV := Lib.hid (show pwV N B F G S fs = [] by unfold pwV; rw [hn', if_neg (fun hh => hf hh.2)])
    have HE := Lib.hid (show pwE N B F G S fs = 2 by unfold pwE; rw [hn', if_pos h, if_neg hf])
    have hf2 : ((m : Int) == N && finB fs) = false := Bool.eq_false_iff.2 hf
    have HF := Lib.hid hf2
    have HEV := Lib.hid h
    have HX0 := Lib.hid X0
    clear hn hn' hf hf2 h X0 hok hev
    go_enter Try.func55, Try.ntmps55
    go_wp2_with fail
    refine (impl_IsEvent_c _ _ _ _ _ _ _ S _ HN.out hm (hr.boxed _)).mono ?_
    rintro e w1 ⟨rfl, b1⟩
    rw [HEV.out]
    have X1 := Lib.hid (HX0.out.below b1)
    have BW1 := Lib.hid ((below_box w (.cells #[.int .i64 N, .int .i64 B, .int .i64 F, .int .i64 G, .slice A n c] 58)).trans (b1.mono (by simp)))
    obtain ⟨c0, c1, c2, c3, c4⟩ := X1.out.cells
    clear b1
    go_wp2_with fail
    refine (impl_areFinishes_c _ _ _ _ _ _ _ _ _ _ fs _ HN'.out hm' (hr'.below BW1.out)).mono ?_
    rintro e w2 ⟨rfl, b2⟩
    rw [HF.out]
    go_wp2_with fail
    go_ret2
    rw [HV.out, HE.out]
    exact LR.mk rfl rfl (Nat.zero_le _) (OI.nil _ _ _ _) (below_step BW1.out b2 BW1.out.size)
end Go.Proofs.Ythpgkngkmmameaa
