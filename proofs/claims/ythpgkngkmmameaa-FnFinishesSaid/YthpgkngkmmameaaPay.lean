/-
  The contracts of payoutsOf, l31Payouts, PayoutsOf. Conditions: at most 1048576 shares.
-/
import Derived.Test.YthpgkngkmmameaaPool
import Derived.Test.YthpgkngkmmameaaPlainPay
import Derived.Test.YthpgkngkmmameaaDiv
import Derived.Test.YthpgkngkmmameaaOwn
import Derived.Deep.RegionHeld3
namespace Go.Proofs.Ythpgkngkmmameaa
open Go.RowKit
set_option linter.unusedVariables false
theorem mod_step {k n : Nat} (hn : 0 < n) : (k % n + 1) % n = (k + 1) % n := by rw [Nat.add_mod, Nat.mod_mod, ← Nat.add_mod]
/-- What a valid event bears. -/
structure EvOk (N B F G : Int) (S : List Int) : Prop where
  p0 : 0 ≤ N * B
  p1 : N * B ≤ 60000
  d0 : 0 ≤ G
  d1 : G ≤ 1000000
  q0 : 0 ≤ poolI N B G
  q1 : poolI N B G ≤ 1000000
  n1 : 1 ≤ S.length
  n2 : S.length ≤ 12
  s : ∀ x ∈ S, 1 ≤ x ∧ x ≤ 1000
theorem ev_ok {N B F G : Int} {S : List Int} (h : evB N B F G S = true) : EvOk N B F G S := by
  obtain ⟨p0, p1, p2, p3, p4, p5⟩ := pool_bd h
  obtain ⟨-, -, -, ⟨d0, d1⟩, ⟨e0, e1, e2⟩, f, -⟩ := evB_iff.1 h
  exact ⟨p0, p1, d0, d1, p2, p3, e0, e2, f⟩
theorem pay_step {u : Int} {S : List Int} {k : Nat} {x : Int} (hk : k < S.length) (hx : S[k]? = some x) : ((payF u S).take k ++ List.replicate (S.length - k) 0).set k (u * x / 1000) = (payF u S).take (k + 1) ++ List.replicate (S.length - (k + 1)) 0 :=
  copy_step (payF u S) S.length k _ (payF_len u S) hk (payF_get hx)
theorem pay_mul {u x : Int} (h0 : 0 ≤ u) (h1 : u ≤ 1000000) (x0 : 1 ≤ x) (x1 : x ≤ 1000) : 0 ≤ u * x ∧ u * x ≤ 1000000000 ∧ 0 ≤ u * x / 1000 ∧ u * x / 1000 ≤ 1000000 := by
  have p0 := Int.mul_nonneg h0 (show 0 ≤ x by omega)
  have p1 : u * x ≤ u * 1000 := Int.mul_le_mul_of_nonneg_left x1 h0
  omega
set_option maxHeartbeats 2000000 in
theorem impl_payoutsOf_c (N B F G : Int) (A : Option Addr) (n c : Nat) (S : List Int) (w : World) (hn : S.length = n) (hr : RI w A S) (hok : EvOk N B F G S) :
    Calls Try.prog 113 #[.agg #[.int .i64 N, .int .i64 B, .int .i64 F, .int .i64 G, .slice A n c]] w fun e w' => ∃ g, e = .returned (.slice (some ⟨g, 0, none⟩) n n) ∧ OI w' w.heap.size w'.heap.size (some ⟨g, 0, none⟩) (payL (poolI N B G) S) ∧ Below w.heap.size w w' := by
  subst hn
  obtain ⟨i0, hi, hz0, hz1, hz2⟩ := info_parts info_int
  have n1 := hok.n1
  have n2 := hok.n2
  obtain ⟨u, hu⟩ : ∃ u, poolI N B G = u := ⟨_, rfl⟩
  have q0 := hok.q0
  have q1 := hok.q1
  rw [hu] at q0 q1
  have HU := Lib.hid hu
  have HF := Lib.hid (payF_bd q0 q1 hok.s)
  rcases hr.split with h0 | ⟨b, off, rfl, hb, hc⟩
  · omega
  have X0 := E5.new 58 w N B F G (some ⟨b, off, none⟩) S.length c
  rw [hu]
  clear hu
  go_enter Try.func113, Try.ntmps113
  go_wp2_with fail
  refine (impl_prizePool_c N B F G _ _ _ _ hok.p0 hok.p1 hok.d0 hok.d1).mono ?_
  rintro e w1 ⟨rfl, b1⟩
  have X1 := Lib.hid (X0.below b1)
  have bW1 := Lib.hid ((below_box w (.cells #[.int .i64 N, .int .i64 B, .int .i64 F, .int .i64 G, .slice (some ⟨b, off, none⟩) S.length c] 58)).trans (b1.mono (by simp)))
  have hlt1 := X1.out.lt
  obtain ⟨c0, c1, c2, c3, c4⟩ := X1.out.cells
  rw [HU.out]
  clear b1 X0
  have sz1 := bW1.out.size
  have tok : True := trivial
  go_wp2_with (at_make; refine wpList_make_full _ rfl _ _ _ rfl w1.heap.size 2 i0 _ 1 Try.underlying22 hi hz0 hz1 _ _ _ _ S.length rfl rfl rfl rfl (by rw [hz2]; omega) (by unfold maxLen; omega) (Nat.le_refl _) ?_; intro w2 hown1 hg1; have bb : Below w1.heap.size w1 w2 := (Below.refl _ _).grown hg1 (Nat.le_refl _) (by simp); have X2 := X1.out.below bb; obtain ⟨c0, c1, c2, c3, c4⟩ := X2.cells; have B2 := Lib.hid bb; have X2' := Lib.hid X2; clear bb X2)
  rw [Nat.mul_one, show (Value.int IntKind.i64 0).cells = #[Value.int IntKind.i64 0] from rfl, toList_madeCells_one, show List.replicate S.length (Value.int IntKind.i64 0) = (List.replicate S.length (0 : Int)).map (.int .i64) from by simp] at hown1
  have ho1 := Lib.hid (OI.of_row hown1)
  have HBW := Lib.hid (below_step bW1.out B2.out sz1)
  clear hown1 hg1 hi hz0 hz1 hz2
  go_loopw [22] (fun i wr => ∃ k : Nat, i = .int .i64 k ∧ k ≤ S.length ∧ w2.heap.size ≤ wr.heap.size ∧ Hid (OI wr w1.heap.size w2.heap.size (some ⟨w1.heap.size, 0, none⟩) ((payF u S).take k ++ List.replicate (S.length - k) 0)) ∧ Hid (Below w.heap.size w wr)) (fun i _ => S.length - (intOf i).toNat)
  case atStart => exact ⟨0, rfl, Nat.zero_le _, Nat.le_refl _, Lib.hid (by simpa using ho1.out), HBW⟩
  case round =>
    obtain ⟨k, rfl, hk, hsz, ho, hbr⟩ := hrel
    by_cases hlt : k < S.length
    · obtain ⟨x, hx⟩ := get_some hlt
      obtain ⟨x0, x1⟩ := hok.s x (List.mem_of_getElem? hx)
      obtain ⟨m0, m1, m2, m3⟩ := pay_mul q0 q1 x0 x1
      have hcx := (hbr.out.cell (p := ⟨b, off + k, none⟩) hb).trans (hc.out k x hx)
      obtain ⟨⟨y, hg1⟩, hg2⟩ := OI.at_ ho.out (j := k) (by simp [payF_len]; omega)
      have hset := OI.set ho.out (j := k) (by simp [payF_len]; omega) (u * x / 1000)
      rw [Nat.zero_add] at hg1 hg2 hset
      rw [pay_step hlt hx] at hset
      have HS := Lib.hid hset
      have HB2 := Lib.hid (hbr.out.setCell (p := ⟨w1.heap.size, k, none⟩) sz1 (.int .i64 (u * x / 1000)))
      have e1 : IntKind.i64.wrap (u * x) = u * x := by rw [IntKind.wrap_i64]; omega
      have e2 : (u * x).tdiv 1000 = u * x / 1000 := Int.tdiv_eq_ediv_of_nonneg m0
      have b1 : (k : Int) < (S.length : Int) := by omega
      have b2 : (0 : Int) ≤ (k : Int) := by omega
      clear hx hset ho hbr
      go_wp2_with fail
      go_roundw
      case rel => exact ⟨k + 1, by go_num, by omega, by simpa [World.setCell] using hsz, HS, HB2⟩
      case measure => simp [intOf]; omega
    · have hke : k = S.length := by omega
      have ho2 := ho.out
      rw [hke, List.take_of_length_le (by rw [payF_len]; omega), Nat.sub_self, List.replicate_zero, List.append_nil] at ho2
      have HO := Lib.hid ho2
      have HFS := Lib.hid (show ∀ x ∈ payF u S, -4000000000 ≤ x ∧ x ≤ 4000000000 from fun x hx => by have := HF.out x hx; omega)
      have sb := sumL_bound (zs := payF u S) (B := 4000000000) (by omega) HFS.out S.length
      rw [List.take_of_length_le (by rw [payF_len]; omega)] at sb
      have sb0 : -100000000000 ≤ sumL (payF u S) := by omega
      have sb1 : sumL (payF u S) ≤ 100000000000 := by omega
      clear hke ho ho2 sb
      go_wp2_with (go_at_call 87; refine (impl_sumOf_c _ _ _ (payF u S) _ (payF_len u S) (by omega) HO.out.ri HFS).mono ?_; rintro e w' ⟨rfl, rfl⟩)
      obtain ⟨F0, hF0⟩ : ∃ F0, payF u S = F0 := ⟨_, rfl⟩
      obtain ⟨L, hL⟩ : ∃ L, u - sumL F0 = L := ⟨_, rfl⟩
      have HFL := Lib.hid (show F0.length = S.length by rw [← hF0]; exact payF_len _ _)
      have HBD := Lib.hid (show ∀ k : Nat, ∀ x ∈ bumpK S.length k F0, 0 ≤ x ∧ x ≤ 1000000 + k by
        intro k
        have := bumpK_bd (l := F0) (lo := 0) (hi := 1000000) (by rw [← hF0]; exact HF.out) (by rw [HFL.out]; omega) k
        rw [HFL.out] at this
        exact this)
      have HV := Lib.hid (show bumpK S.length L.toNat F0 = payL u S by unfold payL payLeft; rw [hF0, show u - sumD F0 = L from hL])
      rw [hF0] at sb0 sb1 HO ⊢
      have z0 : -1000000000000 ≤ L := by omega
      have z1 : L ≤ 1000000000000 := by omega
      rw [hL]
      have HS0 := Lib.hid (show OI wr w1.heap.size w2.heap.size (some ⟨w1.heap.size, 0, none⟩) (bumpK S.length 0 F0) from HO.out)
      clear hF0 hL HO HFS HF
      obtain ⟨wo, rfl⟩ : ∃ wo : World, wo = wr := ⟨_, rfl⟩
      go_loopw [8, 9] (fun i l wr => ∃ (j r : Nat), i = .int .i64 r ∧ l = .int .i64 (L - j) ∧ Hid (r = j % S.length) ∧ r < S.length ∧ j ≤ L.toNat ∧ Hid (OI wr w1.heap.size w2.heap.size (some ⟨w1.heap.size, 0, none⟩) (bumpK S.length j F0)) ∧ Hid (Below w.heap.size w wr) ∧ w2.heap.size ≤ wr.heap.size) (fun _ l _ => (intOf l).toNat)
      case atStart => exact ⟨0, 0, rfl, by simp, Lib.hid (by simp), by omega, Nat.zero_le _, HS0, hbr, hsz⟩
      case round =>
        clear HS0
        obtain ⟨j, r, rfl, rfl, hr, hrn, hj, ho, hbr, hsz⟩ := hrel
        by_cases hlt2 : 0 < L - j
        · obtain ⟨x, hx⟩ := get_some (zs := bumpK S.length j F0) (k := r) (by rw [bumpK_len, HFL.out]; exact hrn)
          obtain ⟨x0, x1⟩ := HBD.out j x (List.mem_of_getElem? hx)
          have hjb : (j : Int) ≤ 1000000000000 := by omega
          obtain ⟨hg1, hg2⟩ := ho.out.cellX hx
          have hset := ho.out.set (j := r) (by rw [bumpK_len, HFL.out]; exact hrn) (x + 1)
          rw [Nat.zero_add] at hg1 hg2 hset
          have HS := Lib.hid (show OI (wr.setCell ⟨w1.heap.size, r, none⟩ (.int .i64 (x + 1))) w1.heap.size w2.heap.size (some ⟨w1.heap.size, 0, none⟩) (bumpK S.length (j + 1) F0) by
            have e : bumpK S.length (j + 1) F0 = (bumpK S.length j F0).set r (x + 1) := by
              rw [hr.out]
              rw [hr.out] at hx
              show (bumpK S.length j F0).set (j % S.length) ((bumpK S.length j F0).getD (j % S.length) 0 + 1) = _
              rw [show (bumpK S.length j F0).getD (j % S.length) 0 = x by simp [List.getD, hx]]
            rw [e]
            exact hset)
          have HB2 := Lib.hid (hbr.out.setCell (p := ⟨w1.heap.size, r, none⟩) sz1 (.int .i64 (x + 1)))
          have HZ := Lib.hid (show w2.heap.size ≤ (wr.setCell ⟨w1.heap.size, r, none⟩ (.int .i64 (x + 1))).heap.size by simpa [World.setCell] using hsz)
          have HR2 := Lib.hid (show (r + 1) % S.length = (j + 1) % S.length by rw [hr.out]; exact mod_step (by omega))
          have HM := Lib.hid (show (r + 1) % S.length < S.length from Nat.mod_lt _ (by omega))
          have b1 : (r : Int) < (S.length : Int) := by omega
          have b2 : (0 : Int) ≤ (r : Int) := by omega
          have b3 : ¬ (S.length : Int) = 0 := by omega
          clear hx hset ho hbr hr
          go_wp2_with fail
          go_roundw
          case rel => exact ⟨j + 1, (r + 1) % S.length, by first | go_num | (congr 1; push_cast; rfl), by go_num, HR2, HM.out, by omega, HS, HB2, HZ.out⟩
          case measure => simp [intOf]; omega
        · have hje : j = L.toNat := by omega
          have ho2 := ho.out
          rw [hje, HV.out] at ho2
          have HO2 := Lib.hid ho2
          clear hje ho2 ho
          go_wp2_with fail
          go_ret
          exact ⟨_, rfl, HO2.out.widen sz1 hsz, hbr.out⟩
set_option maxRecDepth 1000000 in
set_option maxHeartbeats 4000000 in
theorem spec_l31Payouts_c (N B F G : Int) (A : Option Addr) (n c : Nat) (S : List Int) (w : World) (hn : S.length = n) (hr : RI w A S) (hok : EvOk N B F G S) :
    Calls Try.prog 111 #[.agg #[.int .i64 N, .int .i64 B, .int .i64 F, .int .i64 G, .slice A n c]] w (SL w n (payL (poolI N B G) S)) := by
  subst hn
  have n1 := hok.n1
  have n2 := hok.n2
  obtain ⟨u, hu⟩ : ∃ u, poolI N B G = u := ⟨_, rfl⟩
  have q0 := hok.q0
  have q1 := hok.q1
  rw [hu] at q0 q1
  have HU := Lib.hid hu
  have HF := Lib.hid (payF_bd q0 q1 hok.s)
  have p0 := hok.p0
  have p1 := hok.p1
  have d0 := hok.d0
  have d1 := hok.d1
  rcases hr.split with h0 | ⟨b, off, rfl, hb, hc⟩
  · omega
  have hpool : ∀ W : World, Calls Try.prog 116 #[.agg #[.int .i64 N, .int .i64 B, .int .i64 F, .int .i64 G, .slice (some ⟨b, off, none⟩) S.length c]] W fun e w' => e = .returned (.int .i64 u) ∧ Below W.heap.size W w' := by
    intro W
    have := spec_l31Pool_c N B F G (some ⟨b, off, none⟩) S.length c W p0 p1 d0 d1
    rw [hu] at this
    exact this
  rw [hu]
  clear hu
  obtain ⟨W0, hW0⟩ : ∃ W0, W0 = w.alloc (.cells #[.int .i64 N, .int .i64 B, .int .i64 F, .int .i64 G, .slice (some ⟨b, off, none⟩) S.length c] 58) := ⟨_, rfl⟩
  have E0 := Lib.hid (show E5 58 W0 w.heap.size N B F G (some ⟨b, off, none⟩) S.length c by rw [hW0]; exact E5.new 58 w N B F G (some ⟨b, off, none⟩) S.length c)
  have hs0 : W0.heap.size = w.heap.size + 1 := by rw [hW0]; simp
  have B0 := Lib.hid (show Below w.heap.size w W0 by rw [hW0]; exact below_box _ _)
  have hrow := Lib.hid (show Row ((w.alloc (.cells #[.int .i64 N, .int .i64 B, .int .i64 F, .int .i64 G, .slice (some ⟨b, off, none⟩) S.length c] 58)).alloc (.cells #[] 2)) W0.heap.size (some ⟨w.heap.size + 1, 0, none⟩) 0 0 [] by
    rw [← hW0, ← hs0]; exact Row.empty W0 (Nat.le_refl _))
  have hb0 := Lib.hid (show Below W0.heap.size W0 ((w.alloc (.cells #[.int .i64 N, .int .i64 B, .int .i64 F, .int .i64 G, .slice (some ⟨b, off, none⟩) S.length c] 58)).alloc (.cells #[] 2)) by rw [← hW0]; exact below_box _ _)
  have HS0 := Lib.hid hs0
  have hs0' : w.heap.size + 1 ≤ W0.heap.size := by omega
  have hs0'' : W0.heap.size ≤ w.heap.size + 1 := by omega
  have mk : ∀ (k : Nat) (x : Int) (w' : World), S[k]? = some x → Below W0.heap.size W0 w' → w'.cell? ⟨w.heap.size, 0, none⟩ = some (.int .i64 N) ∧ w'.cell? ⟨w.heap.size, 1, none⟩ = some (.int .i64 B) ∧ w'.cell? ⟨w.heap.size, 2, none⟩ = some (.int .i64 F) ∧ w'.cell? ⟨w.heap.size, 3, none⟩ = some (.int .i64 G) ∧ w'.cell? ⟨w.heap.size, 4, none⟩ = some (.slice (some ⟨b, off, none⟩) S.length c) ∧ w'.cell? ⟨b, off + k, none⟩ = some (.int .i64 x) ∧ Below W0.heap.size W0 w' := by
    intro k x w' hx hB
    obtain ⟨c0, c1, c2, c3, c4⟩ := (E0.out.below hB).cells
    exact ⟨c0, c1, c2, c3, c4, ((B0.out.trans (hB.mono (by omega))).cell (p := ⟨b, off + k, none⟩) hb).trans (hc.out k x hx), hB⟩
  have MK := Lib.hid mk
  clear mk hs0 hW0
  go_enter Try.func111, Try.ntmps111
  go_wp2_with fail
  go_loopw [3, 4] (fun o i wr => ∃ k g c', o = .slice (some ⟨g, 0, none⟩) k c' ∧ i = .int .i64 (k : Nat) ∧ k ≤ S.length ∧ Hid (Row wr W0.heap.size (some ⟨g, 0, none⟩) k c' ((payF u S).take k)) ∧ Hid (Below W0.heap.size W0 wr)) (fun _ i _ => S.length - (intOf i).toNat)
  case atStart => exact ⟨0, _, _, rfl, rfl, Nat.zero_le _, hrow, hb0⟩
  case round =>
    clear hrow hb0
    obtain ⟨k, g, c', rfl, rfl, hk, ho, hbr⟩ := hrel
    have hsz := hbr.out.size
    by_cases hlt : k < S.length
    · obtain ⟨x, hx⟩ := get_some hlt
      obtain ⟨x0, x1⟩ := hok.s x (List.mem_of_getElem? hx)
      obtain ⟨m0, m1, m2, m3⟩ := pay_mul q0 q1 x0 x1
      have HX := Lib.hid hx
      have S0 := MK.out k x wr hx hbr.out
      obtain ⟨c0, c1, c2, c3, c4, c5, -⟩ := S0
      have e1 : IntKind.i64.wrap (u * x) = u * x := by rw [IntKind.wrap_i64]; omega
      have e2 : (u * x).tdiv 1000 = u * x / 1000 := Int.tdiv_eq_ediv_of_nonneg m0
      have e3 : IntKind.i64.wrap (u * x / 1000) = u * x / 1000 := by rw [IntKind.wrap_i64]; omega
      have b1 : (k : Int) < (S.length : Int) := by omega
      have b2 : (0 : Int) ≤ (k : Int) := by omega
      have HT := Lib.hid (show (payF u S).take (k + 1) = (payF u S).take k ++ [u * x / 1000] by rw [List.take_add_one, payF_get hx]; rfl)
      clear hx
      go_wp2_with fail
      go_region_held3 (fun w' => w'.cell? ⟨w.heap.size, 0, none⟩ = some (.int .i64 N) ∧ w'.cell? ⟨w.heap.size, 1, none⟩ = some (.int .i64 B) ∧ w'.cell? ⟨w.heap.size, 2, none⟩ = some (.int .i64 F) ∧ w'.cell? ⟨w.heap.size, 3, none⟩ = some (.int .i64 G) ∧ w'.cell? ⟨w.heap.size, 4, none⟩ = some (.slice (some ⟨b, off, none⟩) S.length c) ∧ w'.cell? ⟨b, off + k, none⟩ = some (.int .i64 x) ∧ Below W0.heap.size W0 w')
        ((first
          | exact MK.out k x _ HX.out hbr.out.drew
          | exact MK.out k x _ HX.out ((hB2.alloc hB2.size _).trans hb4)
          | exact MK.out k x _ HX.out (hB2.alloc hB2.size _)
          | exact MK.out k x _ HX.out hB2))
        ((first
          | (refine step_append1 (by rfl) _ _ (by rfl) W0.heap.size (some ⟨g, 0, none⟩) k c' _ (by rfl) (Row.alloc HR2.out _) w2.heap.size 1 (u * x / 1000) (by rfl) (by simp) (by omega) (by simp; exact Nat.le_trans hB2.size (Nat.le_succ _)) ?_; intro g3 c3 w4 hr4 hb4)
          | (go_at_call 116; refine (hpool _).mono ?_; rintro e w2 ⟨rfl, b2'⟩; have HR2 := Lib.hid (Row.below (w := wr.drew) (by exact ho.out) b2'); have hB2 : Below W0.heap.size W0 w2 := below_step (w := wr.drew) (by exact hbr.out.drew) b2' hsz)))
      all_goals
        have HW4 := Lib.hid ((hB2.alloc hB2.size _).trans hb4)
        have HR4 := Lib.hid hr4
        clear hr4 hb4 hB2
        go_wp2_with fail
        go_roundw
        case rel => exact ⟨k + 1, g3, c3, rfl, by go_num, by omega, Lib.hid (by rw [HT.out]; exact HR4.out), HW4⟩
        case measure => simp [intOf]; omega
    · have hke : k = S.length := by omega
      have ho2 := ho.out
      rw [hke, List.take_of_length_le (by rw [payF_len]; omega)] at ho2
      subst hke
      have HO := Lib.hid ho2
      obtain ⟨c0, c1, c2, c3, c4⟩ := (E0.out.below hbr.out).cells
      have hbr' := hbr
      clear ho ho2 hbr
      go_wp2_with fail
      refine (hpool _).mono ?_
      rintro e w2 ⟨rfl, b2⟩
      have HO2 := Lib.hid (HO.out.below b2)
      have HB2 := Lib.hid (below_step hbr'.out b2 hsz)
      have HFS := Lib.hid (show ∀ x ∈ payF u S, -4000000000 ≤ x ∧ x ≤ 4000000000 from fun x hx => by have := HF.out x hx; omega)
      have sb := sumL_bound (zs := payF u S) (B := 4000000000) (by omega) HFS.out S.length
      rw [List.take_of_length_le (by rw [payF_len]; omega)] at sb
      have sb0 : -100000000000 ≤ sumL (payF u S) := by omega
      have sb1 : sumL (payF u S) ≤ 100000000000 := by omega
      clear sb b2 c0 c1 c2 c3 c4
      go_wp2_with (go_at_call 84; refine (spec_l01Sum_c _ _ _ (payF u S) _ (payF_len u S) (by omega) HO2.out.oi.ri HFS).mono ?_; rintro e w' ⟨rfl, rfl⟩)
      obtain ⟨F0, hF0⟩ : ∃ F0, payF u S = F0 := ⟨_, rfl⟩
      obtain ⟨L, hL⟩ : ∃ L, u - sumL F0 = L := ⟨_, rfl⟩
      have HFL := Lib.hid (show F0.length = S.length by rw [← hF0]; exact payF_len _ _)
      have HBD := Lib.hid (show ∀ k : Nat, ∀ x ∈ bumpK S.length k F0, 0 ≤ x ∧ x ≤ 1000000 + k by
        intro k
        have := bumpK_bd (l := F0) (lo := 0) (hi := 1000000) (by rw [← hF0]; exact HF.out) (by rw [HFL.out]; omega) k
        rw [HFL.out] at this
        exact this)
      have HV := Lib.hid (show bumpK S.length L.toNat F0 = payL u S by unfold payL payLeft; rw [hF0, show u - sumD F0 = L from hL])
      rw [hF0] at sb0 sb1 HO2 ⊢
      have z0 : -1000000000000 ≤ L := by omega
      have z1 : L ≤ 1000000000000 := by omega
      rw [hL]
      have HS0 := Lib.hid (show OI w2 W0.heap.size w2.heap.size (some ⟨g, 0, none⟩) (bumpK S.length 0 F0) from HO2.out.oi)
      have hgl : W0.heap.size ≤ g := (HS0.out.lt (by show 0 < F0.length; rw [HFL.out]; omega)).1
      have hW2 := Lib.hid (HB2.out.size)
      have HBw := Lib.hid (B0.out.trans (HB2.out.mono (by omega)))
      clear hF0 hL HO HO2 HFS HF HB2 hbr'
      go_loopw [6] (fun i wr => ∃ (j : Nat), i = .int .i64 j ∧ j ≤ L.toNat ∧ Hid (OI wr W0.heap.size w2.heap.size (some ⟨g, 0, none⟩) (bumpK S.length j F0)) ∧ Hid (Below w.heap.size w wr) ∧ w2.heap.size ≤ wr.heap.size) (fun i _ => L.toNat - (intOf i).toNat)
      case atStart => exact ⟨0, rfl, Nat.zero_le _, HS0, HBw, Nat.le_refl _⟩
      case round =>
        clear HS0 HBw
        obtain ⟨j, rfl, hj, ho, hbr, hsz2⟩ := hrel
        by_cases hlt2 : (j : Int) < L
        · obtain ⟨r, hr⟩ : ∃ r, r = j % S.length := ⟨_, rfl⟩
          have hrn : r < S.length := by rw [hr]; exact Nat.mod_lt _ (by omega)
          obtain ⟨x, hx⟩ := get_some (zs := bumpK S.length j F0) (k := r) (by rw [bumpK_len, HFL.out]; exact hrn)
          obtain ⟨x0, x1⟩ := HBD.out j x (List.mem_of_getElem? hx)
          have hjb : (j : Int) ≤ 1000000000000 := by omega
          obtain ⟨hg1, hg2⟩ := ho.out.cellX hx
          have hset := ho.out.set (j := r) (by rw [bumpK_len, HFL.out]; exact hrn) (x + 1)
          rw [Nat.zero_add] at hg1 hg2 hset
          have HS := Lib.hid (show OI (wr.setCell ⟨g, r, none⟩ (.int .i64 (x + 1))) W0.heap.size w2.heap.size (some ⟨g, 0, none⟩) (bumpK S.length (j + 1) F0) by
            have e : bumpK S.length (j + 1) F0 = (bumpK S.length j F0).set r (x + 1) := by
              rw [hr]
              rw [hr] at hx
              show (bumpK S.length j F0).set (j % S.length) ((bumpK S.length j F0).getD (j % S.length) 0 + 1) = _
              rw [show (bumpK S.length j F0).getD (j % S.length) 0 = x by simp [List.getD, hx]]
            rw [e]
            exact hset)
          have HB2 := Lib.hid (hbr.out.setCell (p := ⟨g, r, none⟩) (show w.heap.size ≤ g by omega) (.int .i64 (x + 1)))
          have HZ := Lib.hid (show w2.heap.size ≤ (wr.setCell ⟨g, r, none⟩ (.int .i64 (x + 1))).heap.size by simpa [World.setCell] using hsz2)
          have er : (j : Int) % (S.length : Int) = (r : Int) := by rw [hr]; push_cast; rfl
          have er2 : (j : Int).tmod (S.length : Int) = (r : Int) := by rw [Int.tmod_eq_emod_of_nonneg (by omega)]; exact er
          have b1 : (r : Int) < (S.length : Int) := by omega
          have b2 : (0 : Int) ≤ (r : Int) := by omega
          have b3 : ¬ (S.length : Int) = 0 := by omega
          clear hx hset ho hbr hr
          go_wp2_with fail
          go_roundw
          case rel => exact ⟨j + 1, by go_num, by omega, HS, HB2, HZ.out⟩
          case measure => simp [intOf]; omega
        · have hje : j = L.toNat ∨ L.toNat = 0 ∧ j = 0 := by omega
          have ho2 := ho.out
          rw [show j = L.toNat by omega, HV.out] at ho2
          have HO3 := Lib.hid ho2
          clear hje ho2 ho
          go_wp2_with fail
          go_ret
          exact ⟨g, c', rfl, HO3.out.widen (by omega) hsz2, hbr.out⟩
def pvV (N B F G : Int) (S : List Int) : List Int := if evB N B F G S = true then payL (poolI N B G) S else []
theorem impl_PayoutsOf_c (N B F G : Int) (A : Option Addr) (n c : Nat) (S : List Int) (w : World) (hn : S.length = n) (hm : n ≤ 1048576) (hr : RI w A S) :
    Calls Try.prog 57 #[.agg #[.int .i64 N, .int .i64 B, .int .i64 F, .int .i64 G, .slice A n c]] w (LR w (pvV N B F G S) (ppE N B F G S)) := by
  subst hn
  have X0 := E5.new 58 w N B F G A S.length c
  cases h : evB N B F G S
  · have HV := Lib.hid (show pvV N B F G S = [] by simp [pvV, h])
    have HE := Lib.hid (show ppE N B F G S = 1 by simp [ppE, h])
    go_enter Try.func57, Try.ntmps57
    go_wp2_with fail
    refine (impl_IsEvent_c _ _ _ _ _ _ _ S _ rfl hm (hr.boxed _)).mono ?_
    rintro e w1 ⟨rfl, b1⟩
    rw [h]
    go_wp2_with fail
    go_ret2
    rw [HV.out, HE.out]
    exact LR.mk rfl rfl (Nat.zero_le _) (OI.nil _ _ _ _) ((below_box _ _).trans (b1.mono (by simp)))
  · have HV := Lib.hid (show pvV N B F G S = payL (poolI N B G) S by simp [pvV, h])
    have HE := Lib.hid (show ppE N B F G S = 0 by simp [ppE, h])
    have hok := ev_ok h
    go_enter Try.func57, Try.ntmps57
    go_wp2_with fail
    refine (impl_IsEvent_c _ _ _ _ _ _ _ S _ rfl hm (hr.boxed _)).mono ?_
    rintro e w1 ⟨rfl, b1⟩
    rw [h]
    have X1 := X0.below b1
    have bW := (below_box w (.cells #[.int .i64 N, .int .i64 B, .int .i64 F, .int .i64 G, .slice A S.length c] 58)).trans (b1.mono (by simp))
    have hr1 := hr.below bW
    obtain ⟨c0, c1, c2, c3, c4⟩ := X1.cells
    clear X1 X0 h
    go_wp2_with fail
    refine (impl_payoutsOf_c N B F G _ _ _ S _ rfl hr1 hok).mono ?_
    rintro e w2 ⟨g, rfl, ho, hb⟩
    go_wp2_with fail
    go_ret2
    rw [HV.out, HE.out]
    exact LR.mk rfl (payL_len _ _) hm (ho.widen bW.size (Nat.le_refl _)) (below_step bW hb bW.size)
theorem spec_PayoutsOf_c (N B F G : Int) (A : Option Addr) (n c : Nat) (S : List Int) (w : World) (hn : S.length = n) (hm : n ≤ 1048576) (hr : RI w A S) :
    Calls Try.prog 58 #[.agg #[.int .i64 N, .int .i64 B, .int .i64 F, .int .i64 G, .slice A n c]] w (LR w (pvV N B F G S) (ppE N B F G S)) := by
  subst hn
  have X0 := E5.new 58 w N B F G A S.length c
  cases h : evB N B F G S
  · have HV := Lib.hid (show pvV N B F G S = [] by simp [pvV, h])
    have HE := Lib.hid (show ppE N B F G S = 1 by simp [ppE, h])
    go_enter Try.func58, Try.ntmps58
    go_wp2_with fail
    refine (spec_IsEvent_c _ _ _ _ _ _ _ S _ rfl hm (hr.boxed _)).mono ?_
    rintro e w1 ⟨rfl, b1⟩
    rw [h]
    go_wp2_with fail
    go_ret2
    rw [HV.out, HE.out]
    exact LR.mk rfl rfl (Nat.zero_le _) (OI.nil _ _ _ _) ((below_box _ _).trans (b1.mono (by simp)))
  · have HV := Lib.hid (show pvV N B F G S = payL (poolI N B G) S by simp [pvV, h])
    have HE := Lib.hid (show ppE N B F G S = 0 by simp [ppE, h])
    have hok := ev_ok h
    go_enter Try.func58, Try.ntmps58
    go_wp2_with fail
    refine (spec_IsEvent_c _ _ _ _ _ _ _ S _ rfl hm (hr.boxed _)).mono ?_
    rintro e w1 ⟨rfl, b1⟩
    rw [h]
    have X1 := X0.below b1
    have bW := (below_box w (.cells #[.int .i64 N, .int .i64 B, .int .i64 F, .int .i64 G, .slice A S.length c] 58)).trans (b1.mono (by simp))
    have hr1 := hr.below bW
    obtain ⟨c0, c1, c2, c3, c4⟩ := X1.cells
    clear X1 X0 h
    go_wp2_with fail
    refine (spec_l31Payouts_c N B F G _ _ _ S _ rfl hr1 hok).mono ?_
    rintro e w2 ⟨g, c', rfl, ho, hb⟩
    go_wp2_with fail
    go_ret2
    rw [HV.out, HE.out]
    exact LR.mk rfl (payL_len _ _) hm (ho.widen bW.size (Nat.le_refl _)) (below_step bW hb bW.size)
end Go.Proofs.Ythpgkngkmmameaa
