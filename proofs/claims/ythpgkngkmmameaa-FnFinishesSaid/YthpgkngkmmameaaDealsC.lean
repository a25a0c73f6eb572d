/-
  The contracts of SavePrize, ChipChop. Conditions: at most 1048576 elements.
-/
import Derived.Test.YthpgkngkmmameaaDealsB
namespace Go.Proofs.Ythpgkngkmmameaa
open Go.RowKit
set_option linter.unusedVariables false
theorem divV_bd {u : Int} {ws : List Int} (h : DivOk u ws) (hl : 0 < ws.length) : ∀ x ∈ divV u ws, 0 ≤ x ∧ x ≤ 1000000000000 := by
  intro x hx
  have hb := giveK_bd (p := (floorL u (sumL ws) ws, restL u (sumL ws) ws)) h.floor (by rw [floor_len, rest_len]) (by rw [rest_len]; exact hl) (leftD u ws).toNat x hx
  have hu := h.u1
  have := h.sum ws.length
  rw [List.take_of_length_le (by rw [floor_len]; omega)] at this
  have e : leftD u ws = u - sumL (floorL u (sumL ws) ws) := rfl
  have hu0 := h.u0
  omega
theorem divV_sum {u : Int} {ws : List Int} (h : DivOk u ws) : sumL (divV u ws) = u := by
  have := (div_law h.u0 (fun x hx => (h.w x hx).1) (by have := h.t0; rw [sumD_sumL]; omega)).1
  rw [← sumD_sumL]; exact this
def spB (P : List Int) : Bool := inB (P.length : Int) 1 5 && allIn P 0 100000
def spV (P : List Int) (s : Int) : List Int := if spB P && inB s 0 (sumL P) then (divV (sumL P - s) (List.replicate P.length 1)).set 0 ((divV (sumL P - s) (List.replicate P.length 1)).getD 0 0 + s) else []
def spE (P : List Int) (s : Int) : Int := if spB P = true then (if inB s 0 (sumL P) = true then 0 else 2) else 1
theorem spB_sum {P : List Int} (h : spB P = true) : 0 ≤ sumL P ∧ sumL P ≤ 500000 ∧ 1 ≤ P.length ∧ P.length ≤ 5 := by
  unfold spB at h
  rw [Bool.and_eq_true, inB_iff, allIn_iff] at h
  have := sumL_bound (zs := P) (B := 100000) (by omega) (fun x hx => by have := h.2 x hx; omega) P.length
  rw [List.take_length] at this
  exact ⟨sumL_nonneg (fun x hx => (h.2 x hx).1), by omega, by omega, by omega⟩
theorem spB_small {P : List Int} (h : allIn P 0 100000 = true) : Hid (∀ x ∈ P, -4000000000 ≤ x ∧ x ≤ 4000000000) := fun x hx => by
  have := allIn_iff.1 h x hx
  omega
set_option maxHeartbeats 1000000 in
theorem impl_SavePrize_c (A : Option Addr) (n c : Nat) (P : List Int) (s : Int) (w : World) (hn : P.length = n) (hm : n ≤ 1048576) (hr : RI w A P) :
    Calls Try.prog 29 #[.slice A n c, .int .i64 s] w (LR w (spV P s) (spE P s)) := by
  subst hn
  cases h1 : inB (P.length : Int) 1 5
  · have HV := Lib.hid (show spV P s = [] by simp [spV, spB, h1])
    have HE := Lib.hid (show spE P s = 1 by simp [spE, spB, h1])
    go_enter Try.func29, Try.ntmps29
    go_wp2_with (go_at_call 94; refine (impl_within_c _ _ _ _).mono ?_; rintro e w' ⟨rfl, rfl⟩)
    go_ret2
    rw [HV.out, HE.out]
    exact LR.mk rfl rfl (Nat.zero_le _) (OI.nil _ _ _ _) (Below.refl _ _)
  cases h2 : allIn P 0 100000
  · have HV := Lib.hid (show spV P s = [] by simp [spV, spB, h2])
    have HE := Lib.hid (show spE P s = 1 by simp [spE, spB, h2])
    go_enter Try.func29, Try.ntmps29
    go_wp2_with (first
      | (go_at_call 94; refine (impl_within_c _ _ _ _).mono ?_; rintro e w' ⟨rfl, rfl⟩)
      | (go_at_call 95; refine (impl_allWithin_c _ _ _ P _ _ _ rfl hm hr).mono ?_; rintro e w' ⟨rfl, rfl⟩))
    go_ret2
    rw [HV.out, HE.out]
    exact LR.mk rfl rfl (Nat.zero_le _) (OI.nil _ _ _ _) (Below.refl _ _)
  have hsp : spB P = true := by simp [spB, h1, h2]
  have hz := spB_small h2
  obtain ⟨s0, s1, n0, n1⟩ := spB_sum hsp
  cases h3 : inB s 0 (sumL P)
  · have HV := Lib.hid (show spV P s = [] by simp [spV, h3])
    have HE := Lib.hid (show spE P s = 2 by simp [spE, hsp, h3])
    clear hsp
    go_enter Try.func29, Try.ntmps29
    go_wp2_with (first
      | (go_at_call 94; refine (impl_within_c _ _ _ _).mono ?_; rintro e w' ⟨rfl, rfl⟩)
      | (go_at_call 95; refine (impl_allWithin_c _ _ _ P _ _ _ rfl hm hr).mono ?_; rintro e w' ⟨rfl, rfl⟩)
      | (go_at_call 87; refine (impl_sumOf_c _ _ _ P _ rfl hm hr hz).mono ?_; rintro e w' ⟨rfl, rfl⟩))
    go_ret2
    rw [HV.out, HE.out]
    exact LR.mk rfl rfl (Nat.zero_le _) (OI.nil _ _ _ _) (Below.refl _ _)
  have HV := Lib.hid (show spV P s = (divV (sumL P - s) (List.replicate P.length 1)).set 0 ((divV (sumL P - s) (List.replicate P.length 1)).getD 0 0 + s) by simp [spV, hsp, h3])
  have HE := Lib.hid (show spE P s = 0 by simp [spE, hsp, h3])
  obtain ⟨t0, t1⟩ := inB_iff.1 h3
  have hok := ones_ok (u := sumL P - s) (n := P.length) (by omega) (by omega) n0 (by omega)
  have hbd := Lib.hid (divV_bd hok (by simp; omega))
  have hdl := Lib.hid (show (divV (sumL P - s) (List.replicate P.length 1)).length = P.length by rw [divV_len]; simp)
  clear hsp
  go_enter Try.func29, Try.ntmps29
  go_wp2_with (first
    | (go_at_call 94; refine (impl_within_c _ _ _ _).mono ?_; rintro e w' ⟨rfl, rfl⟩)
    | (go_at_call 95; refine (impl_allWithin_c _ _ _ P _ _ _ rfl hm hr).mono ?_; rintro e w' ⟨rfl, rfl⟩)
    | (go_at_call 87; refine (impl_sumOf_c _ _ _ P _ rfl hm hr hz).mono ?_; rintro e w' ⟨rfl, rfl⟩))
  refine (impl_equalWeights_c P.length _ hm).mono ?_
  rintro e w1 ⟨g1, rfl, o1, b1⟩
  go_wp2_with fail
  refine (impl_divided_c _ _ _ _ (List.replicate P.length 1) _ (by simp) n0 o1.ri hok).mono ?_
  rintro e w2 ⟨g, rfl, ho, hb⟩
  obtain ⟨x, hx⟩ := get_some (zs := divV (sumL P - s) (List.replicate P.length 1)) (k := 0) (by rw [hdl.out]; omega)
  obtain ⟨x0, x1⟩ := hbd.out x (List.mem_of_getElem? hx)
  obtain ⟨cx, fx⟩ := ho.cellX hx
  have hset := ho.set (j := 0) (by rw [hdl.out]; omega) (x + s)
  have hgl := (ho.lt (by rw [hdl.out]; omega)).1
  rw [show x = (divV (sumL P - s) (List.replicate P.length 1)).getD 0 0 by simp [List.getD, hx], ← HV.out] at hset
  have HX := Lib.hid (show (divV (sumL P - s) (List.replicate P.length 1)).getD 0 0 = x by simp [List.getD, hx])
  rw [HX.out] at hset
  have HSET := Lib.hid hset
  have HVL := Lib.hid (show (spV P s).length = P.length by rw [HV.out, List.length_set]; exact hdl.out)
  clear hx hset
  rw [Nat.add_zero] at cx fx
  have hq : (0 : Int) < (P.length : Int) := by omega
  have hbs := b1.size
  go_wp2_with fail
  go_ret2
  rw [HE.out]
  exact LR.mk rfl HVL.out hm (HSET.out.widen hbs (by simp [World.setCell])) ((below_step b1 hb hbs).setCell (show w.heap.size ≤ g by omega) _)
set_option maxHeartbeats 1000000 in
theorem spec_SavePrize_c (A : Option Addr) (n c : Nat) (P : List Int) (s : Int) (w : World) (hn : P.length = n) (hm : n ≤ 1048576) (hr : RI w A P) :
    Calls Try.prog 30 #[.slice A n c, .int .i64 s] w (LR w (spV P s) (spE P s)) := by
  subst hn
  rcases hr.split with h0 | ⟨b, off, rfl, hb, hc⟩
  all_goals
    go_enter Try.func30, Try.ntmps30
    go_wp2_with fail
    go_loop [6] (fun i => ∃ k : Nat, i = .int .i64 k ∧ k ≤ P.length ∧ Hid ((P.take k).all (fun x => inB x 0 100000) = true)) (fun i => P.length - (intOf i).toNat)
    case atStart => exact ⟨0, rfl, Nat.zero_le _, Lib.hid (by simp)⟩
    case round =>
      obtain ⟨k, rfl, hk, HA⟩ := hrel
      by_cases hlt : k < P.length
      · first
          | (exfalso; omega; done)
          | (obtain ⟨x, hx⟩ := get_some hlt
             have hcx := hc.out k x hx
             have HX := Lib.hid hx
             clear hx
             cases hs : inB x 0 100000
             · have hf := allB_fail (p := fun x => inB x 0 100000) HX.out hs
               have HV := Lib.hid (show spV P s = [] by unfold spV spB allIn; rw [hf]; simp)
               have HE := Lib.hid (show spE P s = 1 by unfold spE spB allIn; rw [hf]; simp)
               clear hf
               go_wp2_with (go_at_call 98; refine (spec_l01In_c _ _ _ _).mono ?_; rintro e w' ⟨rfl, rfl⟩)
               go_ret2
               rw [HV.out, HE.out]
               exact LR.mk rfl rfl (Nat.zero_le _) (OI.nil _ _ _ _) (Below.refl _ _)
             · go_wp2_with (go_at_call 98; refine (spec_l01In_c _ _ _ _).mono ?_; rintro e w' ⟨rfl, rfl⟩)
               go_round
               case rel => exact ⟨k + 1, by go_num, by omega, Lib.hid (by rw [allB_step HX.out, HA.out, hs]; rfl)⟩
               case measure => simp [intOf]; omega)
      · have hd : allIn P 0 100000 = true := allB_done (p := fun x => inB x 0 100000) hlt HA.out
        have hz := spB_small hd
        cases h1 : inB (P.length : Int) 1 5
        · have HV := Lib.hid (show spV P s = [] by simp [spV, spB, h1])
          have HE := Lib.hid (show spE P s = 1 by simp [spE, spB, h1])
          clear hd
          go_wp2_with (go_at_call 98; refine (spec_l01In_c _ _ _ _).mono ?_; rintro e w' ⟨rfl, rfl⟩)
          go_ret2
          rw [HV.out, HE.out]
          exact LR.mk rfl rfl (Nat.zero_le _) (OI.nil _ _ _ _) (Below.refl _ _)
        have hsp : spB P = true := by simp [spB, h1, hd]
        obtain ⟨s0, s1, n0, n1⟩ := spB_sum hsp
        first
          | (exfalso; omega; done)
          | (cases h3 : inB s 0 (sumL P)
             · have HV := Lib.hid (show spV P s = [] by simp [spV, h3])
               have HE := Lib.hid (show spE P s = 2 by simp [spE, hsp, h3])
               clear hsp hd
               go_wp2_with (first
                 | (go_at_call 98; refine (spec_l01In_c _ _ _ _).mono ?_; rintro e w' ⟨rfl, rfl⟩)
                 | (go_at_call 84; refine (spec_l01Sum_c _ _ _ P _ rfl hm hr hz).mono ?_; rintro e w' ⟨rfl, rfl⟩))
               go_ret2
               rw [HV.out, HE.out]
               exact LR.mk rfl rfl (Nat.zero_le _) (OI.nil _ _ _ _) (Below.refl _ _)
             have HV := Lib.hid (show spV P s = (divV (sumL P - s) (List.replicate P.length 1)).set 0 ((divV (sumL P - s) (List.replicate P.length 1)).getD 0 0 + s) by simp [spV, hsp, h3])
             have HE := Lib.hid (show spE P s = 0 by simp [spE, hsp, h3])
             obtain ⟨t0, t1⟩ := inB_iff.1 h3
             have hok := ones_ok (u := sumL P - s) (n := P.length) (by omega) (by omega) n0 (by omega)
             have hbd := Lib.hid (divV_bd hok (by simp; omega))
             have hdl := Lib.hid (show (divV (sumL P - s) (List.replicate P.length 1)).length = P.length by rw [divV_len]; simp)
             clear hsp hd
             go_wp2_with (first
               | (go_at_call 98; refine (spec_l01In_c _ _ _ _).mono ?_; rintro e w' ⟨rfl, rfl⟩)
               | (go_at_call 84; refine (spec_l01Sum_c _ _ _ P _ rfl hm hr hz).mono ?_; rintro e w' ⟨rfl, rfl⟩))
             refine (spec_l30Ones_c P.length _ (by omega)).mono ?_
             rintro e w1 ⟨g1, c1, rfl, o1, b1⟩
             go_wp2_with fail
             refine (spec_l30Divide_c _ _ _ _ (List.replicate P.length 1) _ (by simp) n0 o1.oi.ri hok).mono ?_
             rintro e w2 ⟨g, c2, rfl, ho, hb2⟩
             obtain ⟨x, hx⟩ := get_some (zs := divV (sumL P - s) (List.replicate P.length 1)) (k := 0) (by rw [hdl.out]; omega)
             obtain ⟨x0, x1⟩ := hbd.out x (List.mem_of_getElem? hx)
             obtain ⟨cx, fx⟩ := ho.cellX hx
             have hset := ho.set (j := 0) (by rw [hdl.out]; omega) (x + s)
             have hgl := (ho.lt (by rw [hdl.out]; omega)).1
             rw [show x = (divV (sumL P - s) (List.replicate P.length 1)).getD 0 0 by simp [List.getD, hx], ← HV.out] at hset
             have HX := Lib.hid (show (divV (sumL P - s) (List.replicate P.length 1)).getD 0 0 = x by simp [List.getD, hx])
             rw [HX.out] at hset
             have HSET := Lib.hid hset
             have HVL := Lib.hid (show (spV P s).length = P.length by rw [HV.out, List.length_set]; exact hdl.out)
             clear hx hset
             rw [Nat.add_zero] at cx fx
             have hq : (0 : Int) < (P.length : Int) := by omega
             have hbs := b1.size
             go_wp2_with fail
             go_ret2
             rw [HE.out]
             have HO := HSET.out.widen (lo' := w.heap.size) (hi' := w2.heap.size) hbs (Nat.le_refl _)
             have HW := (((below_step b1 hb2 hbs).setCell (p := ⟨g, 0, none⟩) (show w.heap.size ≤ g by omega) (.int .i64 (x + s))))
             refine LR.mk rfl HVL.out hm ?_ ?_
             · first
                 | exact HO.widen (Nat.le_refl _) (by simp [World.setCell])
                 | (simpa [World.setCell] using HO)
             · exact HW)
def lastV (S P : List Int) : Int := if P.length = S.length then P.getD (P.length - 1) 0 else 0
def ccV (S P : List Int) : List Int := if prizesB S P = true then (divV (sumL P - lastV S P * S.length) S).map (· + lastV S P) else []
theorem last_facts {S P : List Int} (h : prizesB S P = true) : 0 ≤ lastV S P ∧ lastV S P ≤ 100000 ∧ 0 ≤ sumL P - lastV S P * S.length := by
  obtain ⟨h1, h2, h3, h4, h5⟩ := prizesB_iff.1 h
  have hs := (prizes_sum h).1
  unfold lastV
  split
  · next he =>
    have hm : P.getD (P.length - 1) 0 ∈ P := getD_mem (by omega)
    obtain ⟨a, b⟩ := h4 _ hm
    have key : ∀ k, k < P.length → P.getD (P.length - 1) 0 ≤ P.getD (P.length - 1 - k) 0 := by
      intro k
      induction k with
      | zero => intro _; exact Int.le_refl _
      | succ k ih =>
        intro hk
        have := descB_le h5 (P.length - 1 - k) (by omega) (by omega)
        rw [show P.length - 1 - k - 1 = P.length - 1 - (k + 1) by omega] at this
        have := ih (by omega)
        omega
    have all : ∀ x ∈ P, P.getD (P.length - 1) 0 ≤ x := by
      intro x hx
      obtain ⟨i, hi, rfl⟩ := List.getElem_of_mem hx
      have := key (P.length - 1 - i) (by omega)
      rw [show P.length - 1 - (P.length - 1 - i) = i by omega] at this
      simpa [List.getD, hi] using this
    have ge : ∀ (l : List Int) (m : Int), (∀ x ∈ l, m ≤ x) → m * l.length ≤ sumL l := by
      intro l m
      rw [← sumD_sumL]
      induction l with
      | nil => intro _; simp [sumD_nil]
      | cons y l ih =>
        intro hh
        have h1 := hh y (by simp)
        have h2 := ih (fun z hz => hh z (by simp [hz]))
        rw [sumD_cons, List.length_cons, Int.natCast_add, Int.mul_add]
        simp; omega
    have := ge P _ all
    rw [he] at this
    exact ⟨a, b, by rw [he] at *; omega⟩
  · exact ⟨Int.le_refl _, by omega, by omega⟩
theorem cc_ok {S P : List Int} (h : prizesB S P = true) : DivOk (sumL P - lastV S P * S.length) S := by
  obtain ⟨h1, h2, h3, h4, h5⟩ := prizesB_iff.1 h
  obtain ⟨k1, k2, k3⟩ := fieldB_iff.1 h1
  obtain ⟨l1, l2, l3⟩ := last_facts h
  obtain ⟨s0, s1, -⟩ := prizes_sum h
  have hp := Int.mul_nonneg l1 (show (0 : Int) ≤ S.length by omega)
  refine ⟨l3, by omega, fun x hx => by have := k3 x hx; omega, ?_, by omega⟩
  have hm := mem_le_sum (l := S) (fun z hz => by have := k3 z hz; omega) _ (List.getElem_mem (l := S) (n := 0) (by omega))
  have := k3 _ (List.getElem_mem (l := S) (n := 0) (by omega))
  rw [sumD_sumL] at hm
  omega
theorem map_set_step {l : List Int} {k : Nat} {x a : Int} (hx : l[k]? = some x) : ((l.take k).map (· + a) ++ l.drop k).set k (x + a) = (l.take (k + 1)).map (· + a) ++ l.drop (k + 1) := by
  have hk : k < l.length := (List.getElem?_eq_some_iff.1 hx).1
  have hxe : l[k] = x := (List.getElem?_eq_some_iff.1 hx).2
  have h1 : ((l.take k).map (· + a)).length = k := by simp; omega
  rw [List.set_append_right _ _ (by omega), h1, Nat.sub_self, List.drop_eq_getElem_cons hk, List.set_cons_zero, List.take_add_one, hx, List.map_append]
  simp
theorem map_set_get {l : List Int} {k : Nat} {x a : Int} (hx : l[k]? = some x) : ((l.take k).map (· + a) ++ l.drop k)[k]? = some x := by
  have hk : k < l.length := (List.getElem?_eq_some_iff.1 hx).1
  have h1 : ((l.take k).map (· + a)).length = k := by simp; omega
  rw [List.getElem?_append_right (by omega), h1, Nat.sub_self, List.getElem?_drop]
  simpa using hx
set_option maxHeartbeats 2000000 in
theorem impl_ChipChop_c (A : Option Addr) (n c : Nat) (S : List Int) (B : Option Addr) (m d : Nat) (P : List Int) (w : World) (hn : S.length = n) (hm : n ≤ 1048576) (hr : RI w A S) (hn' : P.length = m) (hm' : m ≤ 1048576) (hr' : RI w B P) :
    Calls Try.prog 34 #[.slice A n c, .slice B m d] w (LR w (ccV S P) (ecE S P)) := by
  subst hn
  subst hn'
  cases h1 : prizesB S P
  · have HV := Lib.hid (show ccV S P = [] by simp [ccV, h1])
    have HE := Lib.hid (show ecE S P = 1 by simp [ecE, h1])
    go_enter Try.func34, Try.ntmps34
    go_wp2_with (go_at_call 103; refine (impl_ArePrizes_c _ _ _ _ _ _ S P _ rfl hm hr rfl hm' hr').mono ?_; rintro e w' ⟨rfl, q, rfl⟩)
    go_ret2
    rw [HV.out, HE.out]
    exact LR.mk rfl rfl (Nat.zero_le _) (OI.nil _ _ _ _) (below_drewN (Below.refl _ _) _)
  have HE := Lib.hid (show ecE S P = 0 by simp [ecE, h1])
  obtain ⟨s0, s1, n0, n1, m0, m1⟩ := prizes_sum h1
  obtain ⟨L, hLe⟩ : ∃ L, lastV S P = L := ⟨_, rfl⟩
  obtain ⟨l0, l1, l2⟩ := last_facts h1
  have hz := prizes_small h1
  have hok := cc_ok h1
  rw [hLe] at l0 l1 l2 hok
  obtain ⟨D, hD⟩ : ∃ D, divV (sumL P - L * S.length) S = D := ⟨_, rfl⟩
  have hbd := Lib.hid (show ∀ x ∈ D, 0 ≤ x ∧ x ≤ 1000000000000 by rw [← hD]; exact divV_bd hok (by omega))
  have HD := Lib.hid (show D.length = S.length by rw [← hD]; exact divV_len _ _)
  have HV := Lib.hid (show ccV S P = D.map (· + L) by rw [← hD]; simp [ccV, h1, hLe])
  rcases hr'.split with h0 | ⟨b, off, rfl, hbb, hc⟩
  · omega
  have p0 : 0 ≤ L * S.length := Int.mul_nonneg l0 (by omega)
  have p1 : L * S.length ≤ 500000 := by
    have := Int.mul_le_mul l1 (show (S.length : Int) ≤ 5 by omega) (by omega) (by omega)
    omega
  by_cases hne : P.length = S.length
  · have e1 : ((P.length : Int) == (S.length : Int)) = true := by simp [hne]
    have hL : P[P.length - 1]? = some L := by
      rw [← hLe]
      unfold lastV
      rw [if_pos hne]
      exact get_getD (by omega)
    have hcx := hc.out _ _ hL
    have e0 : IntKind.i64.wrap ((P.length : Int) - 1) = ((P.length - 1 : Nat) : Int) := by rw [IntKind.wrap_i64]; omega
    have b3 : ((P.length : Int) - 1) < (P.length : Int) := by omega
    have b4 : (0 : Int) ≤ ((P.length : Int) - 1) := by omega
    have b5 : ((P.length : Int) - 1).toNat = P.length - 1 := by omega
    have ew : IntKind.i64.wrap (L * (S.length : Int)) = L * (S.length : Int) := by rw [IntKind.wrap_i64]; omega
    have HDD := Lib.hid hD
    clear hL hne hc hD hLe
    go_enter Try.func34, Try.ntmps34
    go_wp2_with (first
      | (go_at_call 103; refine (impl_ArePrizes_c _ _ _ _ _ _ S P _ rfl hm hr rfl hm' hr').mono ?_; rintro e w' ⟨rfl, q, rfl⟩)
      | (go_at_call 87; refine (impl_sumOf_c _ _ _ P _ rfl hm' (hr'.drewN _) hz).mono ?_; rintro e w' ⟨rfl, rfl⟩))
    refine (impl_divided_c _ _ _ _ S _ rfl (by omega) (hr.drewN _) hok).mono ?_
    rintro e w1 ⟨g, rfl, ho, hb'⟩
    have hb1 : Below w.heap.size w w1 := below_step (below_drewN (Below.refl w.heap.size w) _) hb' (Nat.le_refl _)
    rw [HDD.out] at ho
    have ho' := Lib.hid (show OI w1 w.heap.size w1.heap.size (some ⟨g, 0, none⟩) D from ho)
    have hgl : w.heap.size ≤ g := (ho.lt (by rw [HD.out]; omega)).1
    have hgs : g < w1.heap.size := (ho.lt (by rw [HD.out]; omega)).2.1
    clear ho hb'
    go_wp2_with fail
    go_loopw [35] (fun i wr => ∃ k : Nat, i = .int .i64 k ∧ k ≤ S.length ∧ Hid (OI wr w.heap.size w1.heap.size (some ⟨g, 0, none⟩) ((D.take k).map (· + L) ++ D.drop k)) ∧ Hid (Below w.heap.size w wr) ∧ w1.heap.size ≤ wr.heap.size) (fun i _ => S.length - (intOf i).toNat)
    case atStart => exact ⟨0, rfl, Nat.zero_le _, Lib.hid (by simpa using ho'.out), Lib.hid hb1, Nat.le_refl _⟩
    case round =>
      clear ho'
      obtain ⟨k, rfl, hk, ho, hbr, hsz⟩ := hrel
      by_cases hlt : k < S.length
      · obtain ⟨x, hx⟩ := get_some (zs := D) (k := k) (by rw [HD.out]; exact hlt)
        obtain ⟨x0, x1⟩ := hbd.out x (List.mem_of_getElem? hx)
        obtain ⟨cx, fx⟩ := ho.out.cellX (map_set_get (a := L) hx)
        have hset := ho.out.set (j := k) (by simp; have := HD.out; omega) (x + L)
        rw [Nat.zero_add] at cx fx hset
        rw [map_set_step hx] at hset
        have HS := Lib.hid hset
        have HB := Lib.hid (hbr.out.setCell (p := ⟨g, k, none⟩) hgl (.int .i64 (x + L)))
        have HZ := Lib.hid (show w1.heap.size ≤ (wr.setCell ⟨g, k, none⟩ (.int .i64 (x + L))).heap.size by simpa [World.setCell] using hsz)
        have b1 : (k : Int) < (S.length : Int) := by omega
        have b2 : (0 : Int) ≤ (k : Int) := by omega
        clear hx hset ho hbr
        go_wp2_with fail
        go_roundw
        case rel => exact ⟨k + 1, by go_num, by omega, HS, HB, HZ.out⟩
        case measure => simp [intOf]; omega
      · have hke : k = S.length := by omega
        have ho2 := ho.out
        rw [hke, List.take_of_length_le (by rw [HD.out]; omega), List.drop_of_length_le (by rw [HD.out]; omega), List.append_nil] at ho2
        have HO := Lib.hid ho2
        clear hke ho ho2
        go_wp2_with fail
        go_ret2
        rw [HV.out, HE.out]
        exact LR.mk rfl (by rw [List.length_map]; exact HD.out) hm (HO.out.widen (Nat.le_refl _) hsz) hbr.out

  · have e1 : ((P.length : Int) == (S.length : Int)) = false := by simp; omega
    obtain rfl : L = 0 := by rw [← hLe]; unfold lastV; rw [if_neg hne]
    rw [Int.zero_mul, Int.sub_zero] at hD hok
    have HDD := Lib.hid hD
    clear hc hD hLe p0 p1 l2
    go_enter Try.func34, Try.ntmps34
    go_wp2_with (first
      | (go_at_call 103; refine (impl_ArePrizes_c _ _ _ _ _ _ S P _ rfl hm hr rfl hm' hr').mono ?_; rintro e w' ⟨rfl, q, rfl⟩)
      | (go_at_call 87; refine (impl_sumOf_c _ _ _ P _ rfl hm' (hr'.drewN _) hz).mono ?_; rintro e w' ⟨rfl, rfl⟩))
    refine (impl_divided_c _ _ _ _ S _ rfl (by omega) (hr.drewN _) hok).mono ?_
    rintro e w1 ⟨g, rfl, ho, hb'⟩
    have hb1 : Below w.heap.size w w1 := below_step (below_drewN (Below.refl w.heap.size w) _) hb' (Nat.le_refl _)
    rw [HDD.out] at ho
    have ho' := Lib.hid (show OI w1 w.heap.size w1.heap.size (some ⟨g, 0, none⟩) D from ho)
    have hgl : w.heap.size ≤ g := (ho.lt (by rw [HD.out]; omega)).1
    have hgs : g < w1.heap.size := (ho.lt (by rw [HD.out]; omega)).2.1
    clear ho hb'
    go_wp2_with fail
    go_loopw [35] (fun i wr => ∃ k : Nat, i = .int .i64 k ∧ k ≤ S.length ∧ Hid (OI wr w.heap.size w1.heap.size (some ⟨g, 0, none⟩) ((D.take k).map (· + 0) ++ D.drop k)) ∧ Hid (Below w.heap.size w wr) ∧ w1.heap.size ≤ wr.heap.size) (fun i _ => S.length - (intOf i).toNat)
    case atStart => exact ⟨0, rfl, Nat.zero_le _, Lib.hid (by simpa using ho'.out), Lib.hid hb1, Nat.le_refl _⟩
    case round =>
      clear ho'
      obtain ⟨k, rfl, hk, ho, hbr, hsz⟩ := hrel
      by_cases hlt : k < S.length
      · obtain ⟨x, hx⟩ := get_some (zs := D) (k := k) (by rw [HD.out]; exact hlt)
        obtain ⟨x0, x1⟩ := hbd.out x (List.mem_of_getElem? hx)
        obtain ⟨cx, fx⟩ := ho.out.cellX (map_set_get (a := 0) hx)
        have hset := ho.out.set (j := k) (by simp; have := HD.out; omega) (x + 0)
        rw [Nat.zero_add] at cx fx hset
        rw [map_set_step hx] at hset
        have HS := Lib.hid hset
        have HB := Lib.hid (hbr.out.setCell (p := ⟨g, k, none⟩) hgl (.int .i64 (x + 0)))
        have HZ := Lib.hid (show w1.heap.size ≤ (wr.setCell ⟨g, k, none⟩ (.int .i64 (x + 0))).heap.size by simpa [World.setCell] using hsz)
        have b1 : (k : Int) < (S.length : Int) := by omega
        have b2 : (0 : Int) ≤ (k : Int) := by omega
        clear hx hset ho hbr
        go_wp2_with fail
        go_roundw
        case rel => exact ⟨k + 1, by go_num, by omega, by simpa using HS, by simpa using HB, by simpa using HZ.out⟩
        case measure => simp [intOf]; omega
      · have hke : k = S.length := by omega
        have ho2 := ho.out
        rw [hke, List.take_of_length_le (by rw [HD.out]; omega), List.drop_of_length_le (by rw [HD.out]; omega), List.append_nil] at ho2
        have HO := Lib.hid ho2
        clear hke ho ho2
        go_wp2_with fail
        go_ret2
        rw [HV.out, HE.out]
        exact LR.mk rfl (by rw [List.length_map]; exact HD.out) hm (HO.out.widen (Nat.le_refl _) hsz) hbr.out
set_option maxHeartbeats 2000000 in
theorem spec_ChipChop_c (A : Option Addr) (n c : Nat) (S : List Int) (B : Option Addr) (m d : Nat) (P : List Int) (w : World) (hn : S.length = n) (hm : n ≤ 1048576) (hr : RI w A S) (hn' : P.length = m) (hm' : m ≤ 1048576) (hr' : RI w B P) :
    Calls Try.prog 35 #[.slice A n c, .slice B m d] w (LR w (ccV S P) (ecE S P)) := by
  subst hn
  subst hn'
  cases h1 : prizesB S P
  · have HV := Lib.hid (show ccV S P = [] by simp [ccV, h1])
    have HE := Lib.hid (show ecE S P = 1 by simp [ecE, h1])
    go_enter Try.func35, Try.ntmps35
    go_wp2_with (go_at_call 104; refine (spec_ArePrizes_c _ _ _ _ _ _ S P _ rfl hm hr rfl hm' hr').mono ?_; rintro e w' ⟨rfl, q, rfl⟩)
    go_ret2
    rw [HV.out, HE.out]
    exact LR.mk rfl rfl (Nat.zero_le _) (OI.nil _ _ _ _) (below_drewN (Below.refl _ _) _)
  have HE := Lib.hid (show ecE S P = 0 by simp [ecE, h1])
  obtain ⟨s0, s1, n0, n1, m0, m1⟩ := prizes_sum h1
  obtain ⟨L, hLe⟩ : ∃ L, lastV S P = L := ⟨_, rfl⟩
  obtain ⟨l0, l1, l2⟩ := last_facts h1
  have hz := prizes_small h1
  have hok := cc_ok h1
  rw [hLe] at l0 l1 l2 hok
  obtain ⟨D, hD⟩ : ∃ D, divV (sumL P - L * S.length) S = D := ⟨_, rfl⟩
  have hbd := Lib.hid (show ∀ x ∈ D, 0 ≤ x ∧ x ≤ 1000000000000 by rw [← hD]; exact divV_bd hok (by omega))
  have HD := Lib.hid (show D.length = S.length by rw [← hD]; exact divV_len _ _)
  have HV := Lib.hid (show ccV S P = D.map (· + L) by rw [← hD]; simp [ccV, h1, hLe])
  rcases hr'.split with h0 | ⟨b, off, rfl, hbb, hc⟩
  · omega
  have p0 : 0 ≤ L * S.length := Int.mul_nonneg l0 (by omega)
  have p1 : L * S.length ≤ 500000 := by
    have := Int.mul_le_mul l1 (show (S.length : Int) ≤ 5 by omega) (by omega) (by omega)
    omega
  by_cases hne : P.length = S.length
  · have e1 : ((P.length : Int) == (S.length : Int)) = true := by simp [hne]
    have hL : P[P.length - 1]? = some L := by
      rw [← hLe]
      unfold lastV
      rw [if_pos hne]
      exact get_getD (by omega)
    have hcx := hc.out _ _ hL
    have e0 : IntKind.i64.wrap ((P.length : Int) - 1) = ((P.length - 1 : Nat) : Int) := by rw [IntKind.wrap_i64]; omega
    have b3 : ((P.length : Int) - 1) < (P.length : Int) := by omega
    have b4 : (0 : Int) ≤ ((P.length : Int) - 1) := by omega
    have b5 : ((P.length : Int) - 1).toNat = P.length - 1 := by omega
    have ew : IntKind.i64.wrap (L * (S.length : Int)) = L * (S.length : Int) := by rw [IntKind.wrap_i64]; omega
    have HDD := Lib.hid hD
    clear hL hne hc hD hLe
    go_enter Try.func35, Try.ntmps35
    go_wp2_with (first
      | (go_at_call 104; refine (spec_ArePrizes_c _ _ _ _ _ _ S P _ rfl hm hr rfl hm' hr').mono ?_; rintro e w' ⟨rfl, q, rfl⟩)
      | (go_at_call 84; refine (spec_l01Sum_c _ _ _ P _ rfl hm' (hr'.drewN _) hz).mono ?_; rintro e w' ⟨rfl, rfl⟩))
    refine (spec_l30Divide_c _ _ _ _ S _ rfl (by omega) (hr.drewN _) hok).mono ?_
    rintro e w1 ⟨g, c2, rfl, ho, hb'⟩
    have hb1 : Below w.heap.size w w1 := below_step (below_drewN (Below.refl w.heap.size w) _) hb' (Nat.le_refl _)
    rw [HDD.out] at ho
    have ho' := Lib.hid (show OI w1 w.heap.size w1.heap.size (some ⟨g, 0, none⟩) D from ho)
    have hgl : w.heap.size ≤ g := (ho.lt (by rw [HD.out]; omega)).1
    have hgs : g < w1.heap.size := (ho.lt (by rw [HD.out]; omega)).2.1
    clear ho hb'
    go_wp2_with fail
    go_loopw [8] (fun i wr => ∃ k : Nat, i = .int .i64 k ∧ k ≤ S.length ∧ Hid (OI wr w.heap.size w1.heap.size (some ⟨g, 0, none⟩) ((D.take k).map (· + L) ++ D.drop k)) ∧ Hid (Below w.heap.size w wr) ∧ w1.heap.size ≤ wr.heap.size) (fun i _ => S.length - (intOf i).toNat)
    case atStart => exact ⟨0, rfl, Nat.zero_le _, Lib.hid (by simpa using ho'.out), Lib.hid hb1, Nat.le_refl _⟩
    case round =>
      clear ho'
      obtain ⟨k, rfl, hk, ho, hbr, hsz⟩ := hrel
      by_cases hlt : k < S.length
      · obtain ⟨x, hx⟩ := get_some (zs := D) (k := k) (by rw [HD.out]; exact hlt)
        obtain ⟨x0, x1⟩ := hbd.out x (List.mem_of_getElem? hx)
        obtain ⟨cx, fx⟩ := ho.out.cellX (map_set_get (a := L) hx)
        have hset := ho.out.set (j := k) (by simp; have := HD.out; omega) (x + L)
        rw [Nat.zero_add] at cx fx hset
        rw [map_set_step hx] at hset
        have HS := Lib.hid hset
        have HB := Lib.hid (hbr.out.setCell (p := ⟨g, k, none⟩) hgl (.int .i64 (x + L)))
        have HZ := Lib.hid (show w1.heap.size ≤ (wr.setCell ⟨g, k, none⟩ (.int .i64 (x + L))).heap.size by simpa [World.setCell] using hsz)
        have b1 : (k : Int) < (S.length : Int) := by omega
        have b2 : (0 : Int) ≤ (k : Int) := by omega
        clear hx hset ho hbr
        go_wp2_with fail
        go_roundw
        case rel => exact ⟨k + 1, by go_num, by omega, HS, HB, HZ.out⟩
        case measure => simp [intOf]; omega
      · have hke : k = S.length := by omega
        have ho2 := ho.out
        rw [hke, List.take_of_length_le (by rw [HD.out]; omega), List.drop_of_length_le (by rw [HD.out]; omega), List.append_nil] at ho2
        have HO := Lib.hid ho2
        clear hke ho ho2
        go_wp2_with fail
        go_ret2
        rw [HV.out, HE.out]
        exact LR.mk rfl (by rw [List.length_map]; exact HD.out) hm (HO.out.widen (Nat.le_refl _) hsz) hbr.out

  · have e1 : ((P.length : Int) == (S.length : Int)) = false := by simp; omega
    obtain rfl : L = 0 := by rw [← hLe]; unfold lastV; rw [if_neg hne]
    rw [Int.zero_mul, Int.sub_zero] at hD hok
    have HDD := Lib.hid hD
    clear hc hD hLe p0 p1 l2
    go_enter Try.func35, Try.ntmps35
    go_wp2_with (first
      | (go_at_call 104; refine (spec_ArePrizes_c _ _ _ _ _ _ S P _ rfl hm hr rfl hm' hr').mono ?_; rintro e w' ⟨rfl, q, rfl⟩)
      | (go_at_call 84; refine (spec_l01Sum_c _ _ _ P _ rfl hm' (hr'.drewN _) hz).mono ?_; rintro e w' ⟨rfl, rfl⟩))
    refine (spec_l30Divide_c _ _ _ _ S _ rfl (by omega) (hr.drewN _) hok).mono ?_
    rintro e w1 ⟨g, c2, rfl, ho, hb'⟩
    have hb1 : Below w.heap.size w w1 := below_step (below_drewN (Below.refl w.heap.size w) _) hb' (Nat.le_refl _)
    rw [HDD.out] at ho
    have ho' := Lib.hid (show OI w1 w.heap.size w1.heap.size (some ⟨g, 0, none⟩) D from ho)
    have hgl : w.heap.size ≤ g := (ho.lt (by rw [HD.out]; omega)).1
    have hgs : g < w1.heap.size := (ho.lt (by rw [HD.out]; omega)).2.1
    clear ho hb'
    go_wp2_with fail
    go_loopw [8] (fun i wr => ∃ k : Nat, i = .int .i64 k ∧ k ≤ S.length ∧ Hid (OI wr w.heap.size w1.heap.size (some ⟨g, 0, none⟩) ((D.take k).map (· + 0) ++ D.drop k)) ∧ Hid (Below w.heap.size w wr) ∧ w1.heap.size ≤ wr.heap.size) (fun i _ => S.length - (intOf i).toNat)
    case atStart => exact ⟨0, rfl, Nat.zero_le _, Lib.hid (by simpa using ho'.out), Lib.hid hb1, Nat.le_refl _⟩
    case round =>
      clear ho'
      obtain ⟨k, rfl, hk, ho, hbr, hsz⟩ := hrel
      by_cases hlt : k < S.length
      · obtain ⟨x, hx⟩ := get_some (zs := D) (k := k) (by rw [HD.out]; exact hlt)
        obtain ⟨x0, x1⟩ := hbd.out x (List.mem_of_getElem? hx)
        obtain ⟨cx, fx⟩ := ho.out.cellX (map_set_get (a := 0) hx)
        have hset := ho.out.set (j := k) (by simp; have := HD.out; omega) (x + 0)
        rw [Nat.zero_add] at cx fx hset
        rw [map_set_step hx] at hset
        have HS := Lib.hid hset
        have HB := Lib.hid (hbr.out.setCell (p := ⟨g, k, none⟩) hgl (.int .i64 (x + 0)))
        have HZ := Lib.hid (show w1.heap.size ≤ (wr.setCell ⟨g, k, none⟩ (.int .i64 (x + 0))).heap.size by simpa [World.setCell] using hsz)
        have b1 : (k : Int) < (S.length : Int) := by omega
        have b2 : (0 : Int) ≤ (k : Int) := by omega
        clear hx hset ho hbr
        go_wp2_with fail
        go_roundw
        case rel => exact ⟨k + 1, by go_num, by omega, by simpa using HS, by simpa using HB, by simpa using HZ.out⟩
        case measure => simp [intOf]; omega
      · have hke : k = S.length := by omega
        have ho2 := ho.out
        rw [hke, List.take_of_length_le (by rw [HD.out]; omega), List.drop_of_length_le (by rw [HD.out]; omega), List.append_nil] at ho2
        have HO := Lib.hid ho2
        clear hke ho ho2
        go_wp2_with fail
        go_ret2
        rw [HV.out, HE.out]
        exact LR.mk rfl (by rw [List.length_map]; exact HD.out) hm (HO.out.widen (Nat.le_refl _) hsz) hbr.out
end Go.Proofs.Ythpgkngkmmameaa
