/-
  The contracts of l30Ones, l30GiveOut, l30Divide. Conditions: units and weights of at least 0 and at most 10000000, at most 1000 weights, one of them greater than 0.
-/
import Derived.Test.YthpgkngkmmameaaDivide
import Derived.Test.YthpgkngkmmameaaOwn
import Derived.Test.YthpgkngkmmameaaPair
namespace Go.Proofs.Ythpgkngkmmameaa
open Go.RowKit
set_option linter.unusedVariables false
theorem spec_l30Ones_c (n : Nat) (w : World) (h1 : n ≤ 1000) :
    Calls Try.prog 101 #[.int .i64 n] w fun e w' => ∃ g c', e = .returned (.slice (some ⟨g, 0, none⟩) n c') ∧ Row w' w.heap.size (some ⟨g, 0, none⟩) n c' (List.replicate n 1) ∧ Below w.heap.size w w' := by
  go_enter Try.func101, Try.ntmps101
  go_wp2_with fail
  go_loopw [0, 3] (fun m o wr => ∃ k g c', m = .int .i64 ((n - k : Nat) : Int) ∧ o = .slice (some ⟨g, 0, none⟩) k c' ∧ k ≤ n ∧ Row wr w.heap.size (some ⟨g, 0, none⟩) k c' (List.replicate k 1) ∧ Below w.heap.size w wr) (fun m _ _ => (intOf m).toNat)
  case atStart => exact ⟨0, _, _, rfl, rfl, Nat.zero_le _, Row.empty w (Nat.le_refl _), (Below.refl _ _).alloc (Nat.le_refl _) _⟩
  case round =>
    obtain ⟨k, g, c', rfl, rfl, hk, ho, hbr⟩ := hrel
    have hsz := hbr.size
    by_cases hlt : k < n
    · have b1 : (0 : Int) < ((n - k : Nat) : Int) := by omega
      go_wp2_with (at_builtin; refine wpList_append1 rfl _ _ rfl w.heap.size (some ⟨g, 0, none⟩) k c' _ rfl (Row.alloc ho _) wr.heap.size 1 1 rfl (by simp) (by omega) (by simp; omega) ?_; intro g2 c2 w2 hr2 hb2 hg2)
      go_roundw
      case rel => exact ⟨k + 1, g2, c2, by congr 1; omega, rfl, by omega, by rw [List.replicate_succ']; exact hr2, (hbr.alloc (by omega) _).trans hb2⟩
      case measure => simp [intOf]; omega
    · obtain rfl : k = n := by omega
      go_wp2_with fail
      go_ret
      exact ⟨g, c', rfl, ho, hbr⟩
set_option maxHeartbeats 2000000 in
theorem spec_l30GiveOut_c (A B : Option Addr) (n c d : Nat) (u L : Int) (zs rs : List Int) (w : World) (hl : zs.length = n) (hl' : rs.length = n) (h1 : 1 ≤ n) (hn1 : n ≤ 1000) (hr : RI w A zs) (hr' : RI w B rs) (hz : ∀ x ∈ zs, 0 ≤ x ∧ x ≤ u) (u1 : u ≤ 10000000) (z1 : L ≤ 100000000000) (z0 : -100000000000 ≤ L) :
    Calls Try.prog 153 #[.slice A n c, .slice B n d, .int .i64 L] w (SL w n (giveK L.toNat (zs, rs)).1) := by
  obtain ⟨P, hP⟩ : ∃ P, P = (zs, rs) := ⟨_, rfl⟩
  have HB := Lib.hid (show ∀ k : Nat, ∀ x ∈ (giveK k P).1, 0 ≤ x ∧ x ≤ u + k by rw [hP]; exact giveK_bd (p := (zs, rs)) hz (by rw [hl, hl']) (by rw [hl']; omega))
  have HL1 := Lib.hid (show ∀ k : Nat, (giveK k P).1.length = n by intro k; rw [giveK_len1, hP]; exact hl)
  have HL2 := Lib.hid (show ∀ k : Nat, (giveK k P).2.length = n by intro k; rw [giveK_len2, hP]; exact hl')
  have u0 : 0 ≤ u := by
    have hx := List.getElem_mem (l := zs) (n := 0) (by omega)
    have := hz _ hx
    omega
  have Hl := Lib.hid hl
  have Hl' := Lib.hid hl'
  have HP := Lib.hid hP
  clear hl hl' hz hP
  go_enter Try.func153, Try.ntmps153
  go_wp2_with fail
  refine (spec_l01Own_c _ _ _ zs _ Hl.out h1 (by omega) hr).mono ?_
  rintro e w1 ⟨g1, c1, rfl, o1, b1⟩
  go_wp2_with fail
  refine (spec_l01Own_c _ _ _ rs _ Hl'.out h1 (by omega) (hr'.below b1)).mono ?_
  rintro e w2 ⟨g2, c2, rfl, o2, b2⟩
  have hst := Lib.hid (show DivSt w w2 g1 g2 (giveK 0 P).1 (giveK 0 P).2 by
    have k1 := o1.oi.lt (by rw [Hl.out]; omega)
    have k2 := o2.oi.lt (by rw [Hl'.out]; omega)
    rw [HP.out]
    have hs1 := b1.size
    exact ⟨by omega, (o1.below b2).oi.exact, o2.oi.exact, below_step b1 b2 hs1, k1.1, by omega⟩)
  clear o1 o2 b1 b2
  go_wp2_with fail
  go_loopw [2] (fun l wr => ∃ (j : Nat), l = .int .i64 (L - j) ∧ j ≤ L.toNat ∧ Hid (DivSt w wr g1 g2 (giveK j P).1 (giveK j P).2)) (fun l _ => (intOf l).toNat)
  case atStart => exact ⟨0, by simp, Nat.zero_le _, hst⟩
  case round =>
    clear hst
    obtain ⟨j, rfl, hj, hs⟩ := hrel
    by_cases hlt : 0 < L - j
    · have hjb : (j : Int) ≤ 100000000000 := by omega
      have hdj : decide ((j : Int) < L) = true := by simp; omega
      go_wp2_with fail
      obtain ⟨wo, rfl⟩ : ∃ wo : World, wo = wr := ⟨_, rfl⟩
      go_loopw [7, 8] (fun b i wr => ∃ (k m : Nat), b = .int .i64 m ∧ i = .int .i64 (k + 1 : Nat) ∧ k + 1 ≤ n ∧ Hid (m = amaxTo (giveK j P).2 k) ∧ m ≤ k ∧ Hid (DivSt w wr g1 g2 (giveK j P).1 (giveK j P).2)) (fun _ i _ => n - (intOf i).toNat)
      case atStart => exact ⟨0, 0, rfl, rfl, h1, Lib.hid rfl, Nat.le_refl _, hs⟩
      case round =>
        clear hs
        obtain ⟨k, m, rfl, rfl, hk, hm, hmk, hs⟩ := hrel
        have b1 : (m : Int) < (n : Int) := by omega
        have b2 : (0 : Int) ≤ (m : Int) := by omega
        by_cases hkn : k + 1 < n
        · obtain ⟨x, hx⟩ := get_some (zs := (giveK j P).2) (k := k + 1) (by rw [HL2.out]; exact hkn)
          obtain ⟨y, hy⟩ := get_some (zs := (giveK j P).2) (k := m) (by rw [HL2.out]; omega)
          obtain ⟨c1, f1⟩ := hs.out.cells2 hx
          obtain ⟨c2, f2⟩ := hs.out.cells2 hy
          have ex : (giveK j P).2.getD (k + 1) 0 = x := by simp [List.getD, hx]
          have ey : (giveK j P).2.getD m 0 = y := by simp [List.getD, hy]
          have b3 : ((k + 1 : Nat) : Int) < (n : Int) := by omega
          have b4 : (0 : Int) ≤ ((k + 1 : Nat) : Int) := by omega
          by_cases hxy : y < x
          · have HM := Lib.hid (show k + 1 = amaxTo (giveK j P).2 (k + 1) by unfold amaxTo; rw [← hm.out, ex, ey, if_pos hxy])
            clear hx hy ex ey
            go_wp2_with fail
            go_quiet (fail)
            go_wp2_with fail
            go_roundw
            case rel => exact ⟨k + 1, k + 1, rfl, by go_num, by omega, HM, Nat.le_refl _, Lib.hid (hs.out.drewN _)⟩
            case measure => simp [intOf]; omega
          · have HM := Lib.hid (show m = amaxTo (giveK j P).2 (k + 1) by unfold amaxTo; rw [← hm.out, ex, ey, if_neg hxy])
            clear hx hy ex ey
            go_wp2_with fail
            go_quiet (fail)
            go_wp2_with fail
            go_roundw
            case rel =>
              have HD := Lib.hid (hs.out.drewN (wr := wr) nq)
              first
                | exact ⟨k + 1, m, rfl, by go_num, by omega, HM, by omega, HD⟩
                | ((repeat apply Exists.intro); refine And.intro ?_ rfl; exact ⟨k + 1, m, rfl, by go_num, by omega, HM, by omega, HD⟩)
            case measure => simp [intOf]; omega
        · have hm2 : m = amaxL (giveK j P).2 := by unfold amaxL; rw [HL2.out, show n - 1 = k by omega]; exact hm.out
          have hmn : m < n := by omega
          obtain ⟨x, hx⟩ : ∃ x, x = (giveK j P).1.getD m 0 := ⟨_, rfl⟩
          have hgx : (giveK j P).1[m]? = some x := by rw [hx]; exact get_getD (by rw [HL1.out]; exact hmn)
          obtain ⟨y, hgy⟩ := get_some (zs := (giveK j P).2) (k := m) (by rw [HL2.out]; exact hmn)
          obtain ⟨x0, x1⟩ := HB.out j x (List.mem_of_getElem? hgx)
          obtain ⟨c1, f1⟩ := hs.out.cells1 hgx
          obtain ⟨c2, f2⟩ := hs.out.cells2 hgy
          have hne : ¬ g1 = g2 := hs.out.ne
          have hne' : ¬ g2 = g1 := fun h => hne h.symm
          have DS := Lib.hid ((hs.out.set1 (j := m) (by rw [HL1.out]; exact hmn) (x + 1)).set2 (j := m) (by rw [HL2.out]; exact hmn) (-1))
          have DE := Lib.hid (show giveK (j + 1) P = ((giveK j P).1.set m (x + 1), (giveK j P).2.set m (-1)) by rw [hx, hm2]; rfl)
          clear hm2 hm hx hgx hgy hs
          go_wp2_with fail
          go_roundw
          case rel =>
            refine ⟨j + 1, by go_num, by omega, Lib.hid ?_⟩
            rw [DE.out]
            exact DS.out
          case measure => simp [intOf]; omega
    · have hje : j = L.toNat := by omega
      have hs2 := hs.out.s
      have hlt := OI.lt hs2 (by rw [HL1.out]; omega)
      have HO := Lib.hid (hs2.widen (lo' := w.heap.size) (hi' := wr.heap.size) hs.out.l1 (by omega))
      have HBl := Lib.hid hs.out.below
      have HE := Lib.hid hje
      clear hje hs2 hs hlt
      go_wp2_with fail
      go_ret
      refine ⟨_, _, rfl, ?_, HBl.out⟩
      have := HO.out
      rw [HE.out, HP.out] at this
      exact this
set_option maxHeartbeats 2000000 in
theorem spec_l30Divide_c (A : Option Addr) (n c : Nat) (u : Int) (zs : List Int) (w : World) (hn : zs.length = n) (h1 : 1 ≤ n) (hr : RI w A zs) (hok : DivOk u zs) :
    Calls Try.prog 99 #[.int .i64 u, .slice A n c] w (SL w n (divV u zs)) := by
  subst hn
  have hn1 := hok.n1
  have u0 := hok.u0
  have u1 := hok.u1
  have t0 := hok.t0
  have t1 := hok.t1
  have hz := Lib.hid (show ∀ x ∈ zs, -4000000000 ≤ x ∧ x ≤ 4000000000 from fun x hx => by have := hok.w x hx; omega)
  rcases hr.split with h0 | ⟨b, off, rfl, hb, hc⟩
  · omega
  have hm : zs.length ≤ 1048576 := by omega
  go_enter Try.func99, Try.ntmps99
  go_wp2_with (go_at_call 84; refine (spec_l01Sum_c _ _ _ zs _ rfl hm hr hz).mono ?_; rintro e w' ⟨rfl, rfl⟩)
  have hst := Lib.hid (RowPair.new w)
  go_loopw [6, 7, 8] (fun s r i wr => ∃ (k g1 c1 g2 c2 : Nat), s = .slice (some ⟨g1, 0, none⟩) k c1 ∧ r = .slice (some ⟨g2, 0, none⟩) k c2 ∧ i = .int .i64 k ∧ k ≤ zs.length ∧ Hid (RowPair w wr g1 k c1 ((floorL u (sumL zs) zs).take k) g2 k c2 ((restL u (sumL zs) zs).take k))) (fun _ _ i _ => zs.length - (intOf i).toNat)
  case atStart => exact ⟨0, _, _, _, _, rfl, rfl, rfl, Nat.zero_le _, hst⟩
  case round =>
    clear hst
    obtain ⟨k, g1, c1, g2, c2, rfl, rfl, rfl, hk, hp⟩ := hrel
    have hsz := hp.out.below.size
    by_cases hlt : k < zs.length
    · obtain ⟨x, hx⟩ := get_some hlt
      obtain ⟨p0, p1, q0, q1, r0, r1⟩ := hok.at_ (List.mem_of_getElem? hx)
      have hcx := (hp.out.below.cell (p := ⟨b, off + k, none⟩) hb).trans (hc.out k x hx)
      have e1 : IntKind.i64.wrap (u * x) = u * x := by rw [IntKind.wrap_i64]; omega
      have e2 : (u * x).tdiv (sumL zs) = u * x / sumL zs := Int.tdiv_eq_ediv_of_nonneg p0
      have e3 : (u * x).tmod (sumL zs) = u * x % sumL zs := Int.tmod_eq_emod_of_nonneg p0
      have b1 : (k : Int) < (zs.length : Int) := by omega
      have b2 : (0 : Int) ≤ (k : Int) := by omega
      have b3 : ¬ sumL zs = 0 := by omega
      have H1 := Lib.hid (show (floorL u (sumL zs) zs).take (k + 1) = (floorL u (sumL zs) zs).take k ++ [u * x / sumL zs] by rw [List.take_add_one, floor_get (u := u) (T := sumL zs) hx]; rfl)
      have H2 := Lib.hid (show (restL u (sumL zs) zs).take (k + 1) = (restL u (sumL zs) zs).take k ++ [u * x % sumL zs] by rw [List.take_add_one, rest_get (u := u) (T := sumL zs) hx]; rfl)
      have hp' := hp.out
      have H0 := Lib.hid hx
      clear hx
      have tok : True := trivial
      go_wp2_with (first
        | (at_builtin; have _t := tok; refine wpList_pair1 rfl _ _ rfl (hp'.alloc _) rfl wr.heap.size 1 (u * x / sumL zs) rfl (by simp) (by omega) ?_; intro g3 c3 w3 hp3; have hcx3 := (hp3.below.cell (p := ⟨b, off + k, none⟩) hb).trans (hc.out k x H0.out); clear tok)
        | (at_builtin; refine wpList_pair2 rfl _ _ rfl (hp3.alloc _) rfl w3.heap.size 1 (u * x % sumL zs) rfl (by simp) (by omega) ?_; intro g4 c4 w4 hp4))
      go_roundw
      case rel => exact ⟨k + 1, g3, c3, g4, c4, rfl, rfl, by go_num, by omega, Lib.hid (by rw [H1.out, H2.out]; exact hp4)⟩
      case measure => simp [intOf]; omega
    · have hp2 := hp.out
      obtain ⟨s0, s1⟩ := hok.sum zs.length
      have hke : k = zs.length := by omega
      rw [hke, List.take_of_length_le (by rw [floor_len]; omega), List.take_of_length_le (by rw [rest_len]; omega)] at hp2
      rw [List.take_of_length_le (by rw [floor_len]; omega)] at s0 s1
      have z0 : -100000000000 ≤ leftD u zs := by unfold leftD; rw [sumD_sumL, sumD_sumL]; omega
      have z1 : leftD u zs ≤ 100000000000 := by unfold leftD; rw [sumD_sumL, sumD_sumL]; omega
      have HL := Lib.hid (show u - sumL (floorL u (sumL zs) zs) = leftD u zs from rfl)
      have HF := Lib.hid (show ∀ x ∈ floorL u (sumL zs) zs, -4000000000 ≤ x ∧ x ≤ 4000000000 from fun x hx => by have := hok.floor x hx; omega)
      have HO1 := Lib.hid hp2.r1.oi.ri
      have HO2 := Lib.hid hp2.r2.oi.ri
      have HB := Lib.hid hp2.below
      have HF2 := Lib.hid hok.floor
      have hfl : (floorL u (sumL zs) zs).length = zs.length := floor_len _ _ _
      have hrl : (restL u (sumL zs) zs).length = zs.length := rest_len _ _ _
      have HV := Lib.hid (show (giveK (leftD u zs).toNat (floorL u (sumL zs) zs, restL u (sumL zs) zs)).1 = divV u zs from rfl)
      have HF1 := Lib.hid hfl
      have HR1 := Lib.hid hrl
      subst hke
      clear hp hp2 hfl hrl hc
      go_wp2_with (go_at_call 84; refine (spec_l01Sum_c _ _ _ (floorL u (sumL zs) zs) _ HF1.out hm HO1.out HF).mono ?_; rintro e w' ⟨rfl, rfl⟩)
      refine (spec_l30GiveOut_c _ _ _ _ _ u _ (floorL u (sumL zs) zs) (restL u (sumL zs) zs) _ HF1.out HR1.out h1 hn1 HO1.out HO2.out HF2.out u1 (by rw [HL.out]; exact z1) (by rw [HL.out]; exact z0)).mono ?_
      rintro e w5 ⟨g5, c5, rfl, o5, b5⟩
      rw [HL.out, HV.out] at o5
      go_wp2_with fail
      go_ret
      exact ⟨g5, c5, rfl, o5.widen hsz (Nat.le_refl _), below_step HB.out b5 hsz⟩
end Go.Proofs.Ythpgkngkmmameaa
