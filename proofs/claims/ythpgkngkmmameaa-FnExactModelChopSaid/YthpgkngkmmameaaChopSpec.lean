/-
  The contract of ModelChop of the reference. Conditions: at most 1048576 elements.
-/
import Derived.Test.YthpgkngkmmameaaChop
import Derived.IntWalk
namespace Go.Proofs.Ythpgkngkmmameaa
open Go.RowKit
set_option linter.unusedVariables false
/-- A row of numbers and a row of ratios that grow side by side. -/
structure PairQ (w wr : World) (A1 : Option Addr) (n1 c1 : Nat) (l1 : List Int) (A2 : Option Addr) (n2 c2 : Nat) (l2 : List (Int × Int)) : Prop where
  r1 : Row wr w.heap.size A1 n1 c1 l1
  r2 : RowQ wr w.heap.size A2 n2 c2 l2
  below : Below w.heap.size w wr
section
variable {w wr : World} {A1 A2 : Option Addr} {n1 c1 n2 c2 : Nat} {l1 : List Int} {l2 : List (Int × Int)}
theorem PairQ.ne (h : PairQ w wr A1 n1 c1 l1 A2 n2 c2 l2) {g : Nat} (h1 : (Value.slice A1 n1 c1).ownBlock = some g) (h2 : (Value.slice A2 n2 c2).ownBlock = some g) : False := by
  rcases h.r1.2 with ⟨hv, _⟩ | ⟨g1, cap, cur, hv, _, hg, _⟩
  · rw [hv] at h1; simp [Value.ownBlock] at h1
  · rcases h.r2.2 with ⟨hv2, _⟩ | ⟨g2, cap2, cur2, hv2, _, hg2, _⟩
    · rw [hv2] at h2; simp [Value.ownBlock] at h2
    · rw [hv] at h1
      rw [hv2] at h2
      have e1 : g1 = g := by simpa [Value.ownBlock] using h1
      have e2 : g2 = g := by simpa [Value.ownBlock] using h2
      subst e1
      subst e2
      rw [hg] at hg2
      simp at hg2
theorem PairQ.alloc (h : PairQ w wr A1 n1 c1 l1 A2 n2 c2 l2) (o : Obj) : PairQ w (wr.alloc o) A1 n1 c1 l1 A2 n2 c2 l2 := ⟨h.r1.alloc o, h.r2.alloc o, h.below.alloc h.below.size o⟩
theorem PairQ.drew (h : PairQ w wr A1 n1 c1 l1 A2 n2 c2 l2) : PairQ w wr.drew A1 n1 c1 l1 A2 n2 c2 l2 := ⟨h.r1, h.r2, h.below.drew⟩
theorem step_pairA {ops : Array Oper} {o : Oper} {a : Act} {K : Act → World → Prop} {Q : Exit → Act → World → Prop} {E : Prop} (hgd : o.guard = none) (s x : Operand)
    (ho : o.op = .call { callee := .builtin .append, args := #[s, x], argTypes := #[22, 22] })
    (hp : PairQ w wr A1 n1 c1 l1 A2 n2 c2 l2) (hs : a.eval s = .slice A1 n1 c1)
    (g cx : Nat) (y : Int) (hx : a.eval x = .slice (some ⟨g, 0, none⟩) 1 cx) (hy : wr.cell? ⟨g, 0, none⟩ = some (.int .i64 y)) (hlen : n1 ≤ 10000000)
    (h : ∀ (g' c' : Nat) (w' : World), PairQ w w' (some ⟨g', 0, none⟩) (n1 + 1) c' (l1 ++ [y]) A2 n2 c2 l2 → K (a.put o.dst (.slice (some ⟨g', 0, none⟩) (n1 + 1) c')) w') :
    if Region.wanted o (yielded ops a.tmps) = true then Oper.wp Try.prog o a wr K Q else E := by
  have hw : Region.wanted o (yielded ops a.tmps) = true := by simp [Region.wanted, hgd]
  rw [if_pos hw]
  obtain ⟨i0, hi, hz0, hz1, hz2⟩ := info_parts info_int
  have hbase := hp.below.size
  refine wp_append_own (P := Try.prog) wr s x 22 ho w.heap.size 2 i0 (.int .i64 0) 1 8 Try.underlying22 hi hz0 hz1 hz2 rfl (by decide) (.slice A1 n1 c1) n1 _ hs hp.r1 ⟨g, 0, none⟩ 1 cx [.int .i64 y] hx rfl ?_ ?_ (by unfold maxLen; omega) (by omega) hbase ?_
  · intro j u hu
    cases j with
    | zero => simp at hu; subst hu; rw [Addr.add_lit]; exact hy
    | succ j => simp at hu
  · intro u hu
    simp at hu
    subst hu
    rfl
  · intro v' w' hown' hg _
    obtain ⟨g', c', rfl⟩ : ∃ g' c', v' = .slice (some ⟨g', 0, none⟩) (n1 + 1) c' := by
      rcases hown'.2 with ⟨_, h0⟩ | ⟨g', c', cur, hv, _⟩
      · omega
      · exact ⟨g', c', hv⟩
    refine h g' c' w' ⟨?_, ?_, ?_⟩
    · unfold Row
      simpa using hown'
    · refine World.ownsRow.kept hp.r2 hg ?_
      cases hb : (Value.slice A2 n2 c2).ownBlock with
      | none => exact .inl rfl
      | some k => exact .inr (fun e => hp.ne e.symm hb)
    · refine hp.below.grown hg hbase (fun k hk => ?_)
      exact (World.ownsRow.lt hp.r1 k hk).1
theorem step_pairB {ops : Array Oper} {o : Oper} {a : Act} {K : Act → World → Prop} {Q : Exit → Act → World → Prop} {E : Prop} (hgd : o.guard = none) (s x : Operand)
    (ho : o.op = .call { callee := .builtin .append, args := #[s, x], argTypes := #[91, 91] })
    (hp : PairQ w wr A1 n1 c1 l1 A2 n2 c2 l2) (hs : a.eval s = .slice A2 n2 c2)
    (g cx : Nat) (y z : Int) (hx : a.eval x = .slice (some ⟨g, 0, none⟩) 1 cx) (hy : wr.cell? ⟨g, 0, none⟩ = some (.int .i64 y)) (hz : wr.cell? ⟨g, 1, none⟩ = some (.int .i64 z)) (hlen : n2 ≤ 1000000)
    (h : ∀ (g' c' : Nat) (w' : World), PairQ w w' A1 n1 c1 l1 (some ⟨g', 0, none⟩) (n2 + 1) c' (l2 ++ [(y, z)]) → K (a.put o.dst (.slice (some ⟨g', 0, none⟩) (n2 + 1) c')) w') :
    if Region.wanted o (yielded ops a.tmps) = true then Oper.wp Try.prog o a wr K Q else E := by
  have hw : Region.wanted o (yielded ops a.tmps) = true := by simp [Region.wanted, hgd]
  rw [if_pos hw]
  obtain ⟨i0, hi, hz0, hz1, hz2⟩ := info_parts info_ratio
  have hbase := hp.below.size
  refine wp_append_own (P := Try.prog) wr s x 91 ho w.heap.size 48 i0 (.agg #[.int .i64 0, .int .i64 0]) 2 16 Try.underlying91 hi hz0 hz1 hz2 rfl (by decide) (.slice A2 n2 c2) n2 _ hs hp.r2 ⟨g, 0, none⟩ 1 cx [.int .i64 y, .int .i64 z] hx rfl ?_ ?_ (by unfold maxLen; omega) (by omega) hbase ?_
  · intro j u hu
    match j with
    | 0 => simp at hu; subst hu; rw [Addr.add_lit]; exact hy
    | 1 => simp at hu; subst hu; rw [Addr.add_lit]; exact hz
    | j + 2 => simp at hu
  · intro u hu
    simp at hu
    rcases hu with rfl | rfl <;> rfl
  · intro v' w' hown' hg _
    obtain ⟨g', c', rfl⟩ : ∃ g' c', v' = .slice (some ⟨g', 0, none⟩) (n2 + 1) c' := by
      rcases hown'.2 with ⟨_, h0⟩ | ⟨g', c', cur, hv, _⟩
      · omega
      · exact ⟨g', c', hv⟩
    refine h g' c' w' ⟨?_, ?_, ?_⟩
    · refine World.ownsRow.kept hp.r1 hg ?_
      cases hb : (Value.slice A1 n1 c1).ownBlock with
      | none => exact .inl rfl
      | some k => exact .inr (fun e => hp.ne hb e.symm)
    · unfold RowQ
      rw [List.flatMap_append]
      simpa using hown'
    · refine hp.below.grown hg hbase (fun k hk => ?_)
      exact (World.ownsRow.lt hp.r2 k hk).1
theorem PairQ.new (w : World) : PairQ w ((w.alloc (.cells #[] 2)).alloc (.cells #[] 48)) (some ⟨w.heap.size, 0, none⟩) 0 0 [] (some ⟨w.heap.size + 1, 0, none⟩) 0 0 [] := by
  have h1 := (Row.empty w (Nat.le_refl w.heap.size)).alloc (.cells #[] 48)
  have h2 := RowQ.empty (w.alloc (.cells #[] 2)) (base := w.heap.size) (by simp)
  rw [show (w.alloc (.cells #[] 2)).heap.size = w.heap.size + 1 by simp] at h2
  exact ⟨h1, h2, (((Below.refl _ _).alloc (Nat.le_refl _) _).alloc (by simp) _)⟩
theorem PairQ.st {g1 g2 : Nat} (h : PairQ w wr (some ⟨g1, 0, none⟩) n1 c1 l1 (some ⟨g2, 0, none⟩) n2 c2 l2) (h1 : 0 < n1) (h2 : 0 < n2) : ChSt w wr g1 g2 l1 l2 := by
  have e1 := h.r1.oi
  have e2 := h.r2.oq
  have a := OI.lt e1 (by rw [h.r1.length]; exact h1)
  have b := OQ.lt e2 (by rw [h.r2.length]; exact h2)
  exact ⟨fun e => h.ne (g := g1) rfl (by rw [e]; rfl), e1.exact, e2.exact, h.below, a.1, b.1, a.2.1, b.2.1⟩
end
set_option maxRecDepth 100000 in
set_option maxHeartbeats 8000000 in
theorem spec_ModelChop_c (A : Option Addr) (n c : Nat) (S : List Int) (B : Option Addr) (m d : Nat) (P : List Int) (w : World) (hn : S.length = n) (hm : n ≤ 1048576) (hr : RI w A S) (hn' : P.length = m) (hm' : m ≤ 1048576) (hr' : RI w B P) (hmd : m ≤ d) :
    Calls Try.prog 13 #[.slice A n c, .slice B m d] w (LR w (mcV S P) (feE S P)) := by
  have HN := Lib.hid hn
  have HN' := Lib.hid hn'
  clear hn hn'
  by_cases hE : feE S P = 0
  · obtain ⟨es, hok⟩ := ch_ok hE
    have n2 := hok.n1
    have n5 := hok.n2
    have sp := hok.sp
    have HE := Lib.hid hE
    have HL := Lib.hid hok.e
    have HLen := Lib.hid (show es.length = n by rw [hok.len]; exact HN.out)
    rw [HN.out] at n2 n5
    have HV := Lib.hid (show mcV S P = (giveQ (sumL P - sumL (flQ es)).toNat (flQ es, rsQ es)).1 by unfold mcV mcL; rw [if_pos HE.out, HL.out])
    have HF := Lib.hid (flQ_bd hok.q)
    have HR := Lib.hid (rsQ_sm hok.q)
    have HQ := Lib.hid hok.q
    have HBP := hok.bp
    clear hE hok
    go_enter Try.func13, Try.ntmps13
    go_wp2_with fail
    refine (spec_FieldEquities_c A n c S B m d P _ HN.out hm hr HN'.out hm' hr' hmd).mono ?_
    rintro e w1 ⟨G, g1, c1, rfl, hl1, hm1, ho1, b1⟩
    rw [HE.out]
    rw [HL.out] at hl1 ho1
    obtain rfl : g1 = n := by have := hl1.out; have := HLen.out; omega
    have B1 := Lib.hid b1
    have HRP := Lib.hid (hr'.below b1)
    rcases ho1.ri.split with hz | ⟨ge, rfl, hge, hce⟩
    · exfalso; have := HLen.out; omega
    clear b1 ho1 hl1 hr'
    go_wp2_with fail
    have PQ := Lib.hid (PairQ.new w1)
    obtain ⟨L, hL⟩ : ∃ L, sumL P - sumL (flQ es) = L := ⟨_, rfl⟩
    rw [hL] at HV
    go_loopw [8, 9, 10] (fun s t i wr => ∃ (k c2 c3 : Nat) (A1 A2 : Option Addr), s = .slice A1 k c2 ∧ t = .slice A2 k c3 ∧ i = .int .i64 k ∧ k ≤ g1 ∧ Hid (PairQ w1 wr A1 k c2 ((flQ es).take k) A2 k c3 ((rsQ es).take k)) ∧ Hid (0 < k → ∃ h1 h2, A1 = some ⟨h1, 0, none⟩ ∧ A2 = some ⟨h2, 0, none⟩)) (fun _ _ i _ => g1 - (intOf i).toNat)
    case atStart => exact ⟨0, _, _, _, _, rfl, rfl, rfl, Nat.zero_le _, PQ, Lib.hid (fun h => absurd h (Nat.lt_irrefl _))⟩
    case round =>
      clear PQ
      obtain ⟨k, c2, c3, A1, A2, rfl, rfl, rfl, hk, hpq, haa⟩ := hrel
      by_cases hlt : k < g1
      · obtain ⟨x, y, hxy⟩ := get_q (qs := es) (k := k) (by rw [HLen.out]; exact hlt)
        obtain ⟨x0, hsm⟩ := HQ.out (x, y) (List.mem_of_getElem? hxy)
        have x1 : x ≤ 1000000000 := hsm.n1
        have y0 : 1 ≤ y := hsm.d0
        have y1 : y ≤ 1000000000 := hsm.d1
        have x0' : 0 ≤ x := x0
        have e1 : x.tdiv y = x / y := Int.tdiv_eq_ediv_of_nonneg x0'
        have e2 : x.tmod y = x % y := Int.tmod_eq_emod_of_nonneg x0'
        have e3 : ¬ y = 0 := by omega
        have q0 : 0 ≤ x / y := Int.ediv_nonneg x0' (by omega)
        have q1 : x / y ≤ x := Int.ediv_le_self _ x0'
        have e4 : IntKind.i64.wrap (x / y) = x / y := IntWalk.i64_in _ (by omega)
        have z0 : 0 ≤ x % y := Int.emod_nonneg x e3
        have z1 : x % y < y := Int.emod_lt_of_pos x (by omega)
        have i1 : (k : Int) < (g1 : Int) := by omega
        have i2 : (0 : Int) ≤ (k : Int) := by omega
        obtain ⟨p0, p1⟩ := hce.out k x y hxy
        have H1 := Lib.hid (show (flQ es).take (k + 1) = (flQ es).take k ++ [x / y] by rw [List.take_add_one, flQ_get hxy]; rfl)
        have H2 := Lib.hid (show (rsQ es).take (k + 1) = (rsQ es).take k ++ [(x % y, y)] by rw [List.take_add_one, rsQ_get hxy]; rfl)
        have c0 := (hpq.out.below.cell (p := ⟨ge, k * 2, none⟩) hge).trans p0
        have c1 := (hpq.out.below.cell (p := ⟨ge, k * 2 + 1, none⟩) hge).trans p1
        have P0 := Lib.hid p0
        have P1 := Lib.hid p1
        have HE1 := Lib.hid e1
        have HE2 := Lib.hid e2
        have k5 : k ≤ 10 := by omega
        clear hxy p0 p1 hsm x0 e2 haa
        go_wp2_with fail
        go_region_law ((refine step_pairA (by rfl) _ _ (by rfl) (PairQ.alloc (PairQ.drew hpq.out) _) (by rfl) wr.heap.size 1 (x / y) (by rfl) (by simp) (by omega) ?_; intro h1 d1 w4 hp4))
        all_goals
          have HP4 := Lib.hid hp4
          have c0 := (HP4.out.below.cell (p := ⟨ge, k * 2, none⟩) hge).trans P0.out
          have c1 := (HP4.out.below.cell (p := ⟨ge, k * 2 + 1, none⟩) hge).trans P1.out
          have e2 := HE2.out
          clear hp4 e1 e4
          go_wp2_with fail
          go_region_law ((refine step_pairB (by rfl) _ _ (by rfl) (PairQ.alloc (PairQ.drew HP4.out) _) (by rfl) w4.heap.size 1 (x % y) y (by rfl) (by simp) (by simp) (by omega) ?_; intro h2 d2 w5 hp5))
          all_goals
            have HP5 := Lib.hid hp5
            clear hp5 e2 c0 c1
            go_wp2_with fail
            go_roundw
            case rel => exact ⟨k + 1, d1, d2, _, _, rfl, rfl, by go_num, by omega, Lib.hid (by rw [H1.out, H2.out]; exact HP5.out), Lib.hid (fun _ => ⟨h1, h2, rfl, rfl⟩)⟩
            case measure => simp [intOf]; omega
      · obtain rfl : k = g1 := by omega
        obtain ⟨G1, G2, rfl, rfl⟩ := haa.out (by omega)
        have C0 := hpq.out.st (by omega) (by omega)
        rw [List.take_of_length_le (by rw [flQ_len, HLen.out]; exact Nat.le_refl _), List.take_of_length_le (by rw [rsQ_len, HLen.out]; exact Nat.le_refl _)] at C0
        have RP := Lib.hid (HRP.out.below C0.below)
        obtain ⟨F, hF⟩ : ∃ F, flQ es = F := ⟨_, rfl⟩
        obtain ⟨R, hR⟩ : ∃ R, rsQ es = R := ⟨_, rfl⟩
        have LF := Lib.hid (show F.length = k by rw [← hF, flQ_len]; exact HLen.out)
        have LRR := Lib.hid (show R.length = k by rw [← hR, rsQ_len]; exact HLen.out)
        rw [hF] at C0 HF hL HV
        rw [hR] at C0 HR HV
        have HFS := Lib.hid (show ∀ x ∈ F, -4000000000 ≤ x ∧ x ≤ 4000000000 from fun x hx => by have := HF.out x hx; omega)
        have sb := sumL_bound (zs := F) (B := 1000000000) (by omega) (fun x hx => by have := HF.out x hx; omega) k
        rw [List.take_of_length_le (by rw [LF.out]; exact Nat.le_refl _)] at sb
        have sb0 : -5000000000 ≤ sumL F := by omega
        have sb1 : sumL F ≤ 5000000000 := by omega
        have HC := Lib.hid C0
        have GL := Lib.hid (fun j => giveQ_len j (F, R))
        have GS := Lib.hid (giveQ_sm (s := (F, R)) HR.out)
        have GB := Lib.hid (giveQ_bd (s := (F, R)) (B := 1000000000) (by omega) HF.out)
        clear C0 hpq haa sb hF hR HR HF
        obtain ⟨w4, rfl⟩ : ∃ w4 : World, w4 = wr := ⟨_, rfl⟩
        go_wp2_with (go_at_call 84; first
          | ((with_reducible refine (spec_l01Sum_c _ _ _ P _ HN'.out hm' RP.out HBP).mono ?_); rintro e w' ⟨rfl, rfl⟩)
          | ((with_reducible refine (spec_l01Sum_c _ _ _ F _ LF.out (by omega) HC.out.s.ri HFS).mono ?_); rintro e w' ⟨rfl, rfl⟩))
        have hl0 : -5000000000 ≤ L := by omega
        have hl1 : L ≤ 6000000000 := by omega
        clear hL sb0 sb1
        go_loopw [11] (fun l wr => ∃ j : Nat, l = .int .i64 (L - j) ∧ j ≤ L.toNat ∧ Hid (ChSt w1 wr G1 G2 (giveQ j (F, R)).1 (giveQ j (F, R)).2)) (fun l _ => (intOf l).toNat)
        case atStart => exact ⟨0, by simp, Nat.zero_le _, HC⟩
        case round =>
          clear HC
          obtain ⟨j, rfl, hj, hcs⟩ := hrel
          by_cases hlt2 : 0 < L - j
          · have dL : decide ((j : Int) < L) = true := by simp; omega
            obtain ⟨rs, hrs⟩ : ∃ rs, (giveQ j (F, R)).2 = rs := ⟨_, rfl⟩
            obtain ⟨ss, hss⟩ : ∃ ss, (giveQ j (F, R)).1 = ss := ⟨_, rfl⟩
            have LRS := Lib.hid (show rs.length = k by rw [← hrs, (GL.out j).2]; exact LRR.out)
            have LSS := Lib.hid (show ss.length = k by rw [← hss, (GL.out j).1]; exact LF.out)
            have SM := Lib.hid (show ∀ q ∈ rs, Sm q.1 q.2 by rw [← hrs]; exact GS.out j)
            have BD := Lib.hid (show ∀ x ∈ ss, 0 ≤ x ∧ x ≤ 1000000000 + (j : Int) by rw [← hss]; exact GB.out j)
            have ST := Lib.hid (show ∀ (b : Nat) (x : Int), maxQ rs k = b → ss[b]? = some x → giveQ (j + 1) (F, R) = (ss.set b (x + 1), rs.set b (-1, 1)) by
              intro b x hb hx
              rw [← hrs] at hb
              rw [← hss] at hx
              have := giveQ_step (s := (F, R)) (k := j) (b := b) (x := x) (by rw [← hb, LRR.out]) hx
              rw [this, hss, hrs])
            rw [hrs, hss] at hcs
            clear hrs hss
            obtain ⟨w5, rfl⟩ : ∃ w5 : World, w5 = wr := ⟨_, rfl⟩
            obtain ⟨zz1, zz2⟩ : G1 < w5.heap.size ∧ G2 < w5.heap.size := ⟨hcs.out.z1, hcs.out.z2⟩
            go_wp2_with fail
            go_loopw [12, 13] (fun t u wr => ∃ i : Nat, t = .int .i64 (maxQ rs i : Nat) ∧ u = .int .i64 i ∧ 1 ≤ i ∧ i ≤ k ∧ Hid (Below w5.heap.size w5 wr)) (fun _ u _ => k - (intOf u).toNat)
            case atStart => exact ⟨1, by rw [maxQ_one]; rfl, rfl, Nat.le_refl _, by omega, Lib.hid (Below.refl _ _)⟩
            case round =>
              obtain ⟨i, rfl, rfl, hi1, hik, hbw⟩ := hrel
              by_cases hlt3 : i < k
              · obtain ⟨v, hv⟩ : ∃ v, maxQ rs i = v := ⟨_, rfl⟩
                have HB := Lib.hid hv
                have hvl : v < k := by rw [← hv]; exact maxQ_lt rs hik (by omega)
                rw [hv]
                clear hv
                have i1 : (i : Int) < (k : Int) := by omega
                have i2 : (0 : Int) ≤ (i : Int) := by omega
                have i3 : (v : Int) < (k : Int) := by omega
                have i4 : (0 : Int) ≤ (v : Int) := by omega
                obtain ⟨x, y, hxy⟩ := get_q (qs := rs) (k := i) (by rw [LRS.out]; exact hlt3)
                obtain ⟨x', y', hxy'⟩ := get_q (qs := rs) (k := v) (by rw [LRS.out]; exact hvl)
                have S1 := Lib.hid (SM.out (x, y) (List.mem_of_getElem? hxy))
                have S2 := Lib.hid (SM.out (x', y') (List.mem_of_getElem? hxy'))
                have HBS := Lib.hid (show maxQ rs (i + 1) = if 0 < cmpI (x * y') (x' * y) then i else v by
                  show (if 0 < cmpI ((getQ rs i).1 * (getQ rs (maxQ rs i)).2) ((getQ rs (maxQ rs i)).1 * (getQ rs i).2) then i else maxQ rs i) = _
                  rw [HB.out, getQ_some hxy, getQ_some hxy'])
                have CW := Lib.hid (hcs.out.step hbw.out)
                obtain ⟨c0, c3, -, -⟩ := CW.out.cells2 hxy
                obtain ⟨c4, c5, -, -⟩ := CW.out.cells2 hxy'
                clear hxy hxy'
                go_wp2_with fail
                go_still_tail 8, (by kernel_rfl)
                change wpList _ _ _ _ _ (World.drew _)
                go_wp2_with fail
                refine (spec_l01Compare_c _ _ _ _ _ S1.out S2.out).mono ?_
                rintro e w3 ⟨rfl, b3⟩
                have B3 := Lib.hid (below_step hbw.out.drew b3 hbw.out.drew.size)
                clear b3 c0 c3 c4 c5
                obtain ⟨cv, hcv⟩ : ∃ cv, cmpI (x * y') (x' * y) = cv := ⟨_, rfl⟩
                rw [hcv] at HBS
                rw [hcv]
                clear hcv
                by_cases hc : 0 < cv
                · have HS2 := Lib.hid (show maxQ rs (i + 1) = i by rw [HBS.out, if_pos hc])
                  go_wp2_with fail
                  go_roundw
                  case rel => exact ⟨i + 1, by rw [HS2.out], by go_num, by omega, by omega, B3⟩
                  case measure => simp [intOf]; omega
                · have HS2 := Lib.hid (show maxQ rs (i + 1) = v by rw [HBS.out, if_neg hc])
                  go_wp2_with fail
                  go_roundw
                  case rel => exact ⟨i + 1, by rw [HS2.out], by go_num, by omega, by omega, B3⟩
                  case measure => simp [intOf]; omega
              · obtain rfl : i = k := by omega
                obtain ⟨b, hb⟩ : ∃ b, maxQ rs i = b := ⟨_, rfl⟩
                have hbl : b < i := by rw [← hb]; exact maxQ_lt rs (Nat.le_refl _) (by omega)
                obtain ⟨x, hx⟩ := get_some (zs := ss) (k := b) (by rw [LSS.out]; exact hbl)
                obtain ⟨y, y', hy⟩ := get_q (qs := rs) (k := b) (by rw [LRS.out]; exact hbl)
                obtain ⟨x0, x1⟩ := BD.out x (List.mem_of_getElem? hx)
                have HST := Lib.hid (ST.out b x hb hx)
                have CW := Lib.hid (hcs.out.step hbw.out)
                obtain ⟨c0, c1⟩ := CW.out.cells1 hx
                have C1 := Lib.hid (CW.out.set1 (j := b) (by rw [LSS.out]; exact hbl) (x + 1))
                obtain ⟨r0, r1, r2, r3⟩ := C1.out.cells2 hy
                have C2 := Lib.hid (C1.out.set2 (j := b) (by rw [LRS.out]; exact hbl) (-1) 1)
                have i1 : (b : Int) < (i : Int) := by omega
                have i2 : (0 : Int) ≤ (b : Int) := by omega
                have jb : (j : Int) ≤ 6000000000 := by omega
                rw [hb]
                clear hb hx hy
                go_wp2_with fail
                go_roundw
                case rel => exact ⟨j + 1, by go_num, by omega, by rw [HST.out]; exact C2⟩
                case measure => simp [intOf]; omega
          · have hje : j = L.toNat := by omega
            have HV2 := Lib.hid (show mcV S P = (giveQ j (F, R)).1 by rw [HV.out, hje])
            have HLl := Lib.hid (show (giveQ j (F, R)).1.length = k by rw [(GL.out j).1]; exact LF.out)
            have hz := hcs.out.z1
            have hB := hcs.out.below
            have hw1 := B1.out.size
            clear hje
            go_wp2_with fail
            go_ret2
            rw [HV2.out, HE.out]
            exact LR.mk rfl HLl.out (by omega) (hcs.out.s.widen (by have := hcs.out.l1; omega) (by omega)) (below_step B1.out hB B1.out.size)
  · have HV := Lib.hid (show mcV S P = [] by unfold mcV; rw [if_neg hE])
    obtain ⟨E, hE2⟩ : ∃ E, feE S P = E := ⟨_, rfl⟩
    rw [hE2] at hE
    have HE := Lib.hid hE2
    have hB : (E == 0) = false := by simp [hE]
    have hB2 : (E != 0) = true := by simp [hE]
    rw [HE.out]
    clear hE2
    go_enter Try.func13, Try.ntmps13
    go_wp2_with fail
    refine (spec_FieldEquities_c A n c S B m d P _ HN.out hm hr HN'.out hm' hr' hmd).mono ?_
    rintro e w1 ⟨G, g1, c1, rfl, hl1, hm1, ho1, b1⟩
    rw [HE.out]
    go_wp2_with fail
    go_ret2
    rw [HV.out]
    exact LR.mk rfl rfl (Nat.zero_le _) (OI.nil _ _ _ _) b1
end Go.Proofs.Ythpgkngkmmameaa
