/-
  The contracts of divided. Conditions: units and weights of at least 0 and at most 10000000, at most 1000 weights, one of them greater than 0.
-/
import Derived.Test.YthpgkngkmmameaaDiv
import Derived.RegionTactic

namespace Go.Proofs.Ythpgkngkmmameaa
open Go.RowKit
set_option linter.unusedVariables false
/-- Two rows of the call's own. -/
structure DivSt (w wr : World) (g1 g2 : Nat) (ss rs : List Int) : Prop where
  ne : g1 ≠ g2
  s : OI wr g1 (g1 + 1) (some ⟨g1, 0, none⟩) ss
  r : OI wr g2 (g2 + 1) (some ⟨g2, 0, none⟩) rs
  below : Below w.heap.size w wr
  l1 : w.heap.size ≤ g1
  l2 : w.heap.size ≤ g2
theorem Kept.at_ {a b : World} (g : Nat) (j : Nat) (u : Value) (h : b = a.setCell ⟨g, j, none⟩ u) : Kept g (g + 1) a b := by
  subst h
  exact (Kept.refl g (g + 1) a).setCell (.inl ⟨Nat.le_refl _, by simp⟩) u
theorem DivSt.set1 {w wr : World} {g1 g2 : Nat} {ss rs : List Int} (h : DivSt w wr g1 g2 ss rs) {j : Nat} (hj : j < ss.length) (x : Int) : DivSt w (wr.setCell ⟨g1, j, none⟩ (.int .i64 x)) g1 g2 (ss.set j x) rs := by
  have h1 := h.s.set hj x
  rw [Nat.zero_add] at h1
  have hne := h.ne
  exact ⟨h.ne, h1, h.r.kept (Kept.at_ g1 j _ rfl) (by omega), h.below.setCell h.l1 _, h.l1, h.l2⟩
theorem DivSt.set2 {w wr : World} {g1 g2 : Nat} {ss rs : List Int} (h : DivSt w wr g1 g2 ss rs) {j : Nat} (hj : j < rs.length) (x : Int) : DivSt w (wr.setCell ⟨g2, j, none⟩ (.int .i64 x)) g1 g2 ss (rs.set j x) := by
  have h1 := h.r.set hj x
  rw [Nat.zero_add] at h1
  have hne := h.ne
  exact ⟨h.ne, h.s.kept (Kept.at_ g2 j _ rfl) (by omega), h1, h.below.setCell h.l2 _, h.l1, h.l2⟩
theorem DivSt.drew {w wr : World} {g1 g2 : Nat} {ss rs : List Int} (h : DivSt w wr g1 g2 ss rs) : DivSt w wr.drew g1 g2 ss rs := ⟨h.ne, h.s, h.r, h.below.drew, h.l1, h.l2⟩
theorem DivSt.drewN {w wr : World} {g1 g2 : Nat} {ss rs : List Int} (h : DivSt w wr g1 g2 ss rs) (q : Nat) : DivSt w (wr.drewN q) g1 g2 ss rs := ⟨h.ne, h.s, h.r, below_drewN h.below _, h.l1, h.l2⟩
theorem DivSt.cells1 {w wr : World} {g1 g2 : Nat} {ss rs : List Int} (h : DivSt w wr g1 g2 ss rs) {j : Nat} {x : Int} (hx : ss[j]? = some x) : wr.cell? ⟨g1, j, none⟩ = some (.int .i64 x) ∧ wr.frozen? ⟨g1, j, none⟩ = false := by
  rcases h.s with e | ⟨b, off, e, _, _, _, hc, hf⟩
  · rw [e] at hx; simp at hx
  · injection e with e; injection e with e1 e2; subst e1 e2
    have := hc j x hx
    rw [Nat.zero_add] at this
    exact ⟨this, hf j⟩
theorem DivSt.cells2 {w wr : World} {g1 g2 : Nat} {ss rs : List Int} (h : DivSt w wr g1 g2 ss rs) {j : Nat} {x : Int} (hx : rs[j]? = some x) : wr.cell? ⟨g2, j, none⟩ = some (.int .i64 x) ∧ wr.frozen? ⟨g2, j, none⟩ = false := by
  rcases h.r with e | ⟨b, off, e, _, _, _, hc, hf⟩
  · rw [e] at hx; simp at hx
  · injection e with e; injection e with e1 e2; subst e1 e2
    have := hc j x hx
    rw [Nat.zero_add] at this
    exact ⟨this, hf j⟩
theorem divSt_new (w : World) (n : Nat) (a b : Nat) (hab : a = w.heap.size ∧ b = w.heap.size + 1 ∨ a = w.heap.size + 1 ∧ b = w.heap.size) :
    DivSt w (((w.alloc (.cells (madeCells #[.int .i64 0] n) 2)).alloc (.cells (madeCells #[.int .i64 0] n) 2)).drew) a b (List.replicate n 0) (List.replicate n 0) := by
  have h1 := (OI.made w n).below ((Below.refl _ _).alloc (Nat.le_refl _) (.cells (madeCells #[.int .i64 0] n) 2))
  have h2 := OI.made (w.alloc (.cells (madeCells #[.int .i64 0] n) 2)) n
  rw [show (w.alloc (.cells (madeCells #[.int .i64 0] n) 2)).heap.size = w.heap.size + 1 by simp] at h2
  have hb : Below w.heap.size w (((w.alloc (.cells (madeCells #[.int .i64 0] n) 2)).alloc (.cells (madeCells #[.int .i64 0] n) 2)).drew) := (((Below.refl _ _).alloc (Nat.le_refl _) _).alloc (by simp) _).drew
  rcases hab with ⟨rfl, rfl⟩ | ⟨rfl, rfl⟩
  · exact ⟨by omega, h1, h2, hb, by omega, by omega⟩
  · exact ⟨by omega, h2, h1, hb, by omega, by omega⟩
theorem copy_two (l : List Int) {n k : Nat} {x : Int} (hn : l.length = n) (hk : k < n) (hx : l[k]? = some x) : (l.take k ++ List.replicate (n - k) 0).set k x = l.take (k + 1) ++ List.replicate (n - (k + 1)) 0 := copy_step l n k x hn hk hx
/-- What the division's parts bear. -/
structure DivOk (u : Int) (ws : List Int) : Prop where
  u0 : 0 ≤ u
  u1 : u ≤ 10000000
  w : ∀ x ∈ ws, 0 ≤ x ∧ x ≤ 10000000
  t0 : 1 ≤ sumL ws
  n1 : ws.length ≤ 1000
theorem mem_le_sum {l : List Int} (h : ∀ x ∈ l, 0 ≤ x) : ∀ x ∈ l, x ≤ sumD l := by
  induction l with
  | nil => intro x hx; simp at hx
  | cons y l ih =>
    intro x hx
    have h1 := sumD_nonneg (fun z hz => h z (List.mem_cons_of_mem y hz))
    have h2 := h y (by simp)
    rw [sumD_cons]
    rcases List.mem_cons.1 hx with rfl | hx
    · omega
    · have := ih (fun z hz => h z (List.mem_cons_of_mem y hz)) x hx; omega
theorem DivOk.t1 {u : Int} {ws : List Int} (h : DivOk u ws) : sumL ws ≤ 10000000000 := by
  have := (sumL_bound (zs := ws) (B := 10000000) (by omega) (fun x hx => by have := h.w x hx; omega) ws.length).2
  rw [List.take_length] at this
  have := h.n1
  omega
theorem DivOk.at_ {u : Int} {ws : List Int} (h : DivOk u ws) {x : Int} (hx : x ∈ ws) : 0 ≤ u * x ∧ u * x ≤ 100000000000000 ∧ 0 ≤ u * x / sumL ws ∧ u * x / sumL ws ≤ u ∧ 0 ≤ u * x % sumL ws ∧ u * x % sumL ws < sumL ws := by
  obtain ⟨x0, x1⟩ := h.w x hx
  have hu0 := h.u0
  have hu1 := h.u1
  have ht := h.t0
  have hxs : x ≤ sumL ws := mem_le_sum (fun z hz => (h.w z hz).1) x hx
  have p0 := Int.mul_nonneg hu0 x0
  have p1 : u * x ≤ u * 10000000 := Int.mul_le_mul_of_nonneg_left x1 hu0
  have p2 : u * x ≤ u * sumL ws := Int.mul_le_mul_of_nonneg_left hxs hu0
  refine ⟨p0, by omega, Int.ediv_nonneg p0 (by omega), ?_, Int.emod_nonneg _ (by omega), Int.emod_lt_of_pos _ (by omega)⟩
  exact Int.ediv_le_of_le_mul (by omega) p2
theorem floor_get {u T : Int} {ws : List Int} {k : Nat} {x : Int} (hx : ws[k]? = some x) : (floorL u T ws)[k]? = some (u * x / T) := by simp [floorL, hx]
theorem rest_get {u T : Int} {ws : List Int} {k : Nat} {x : Int} (hx : ws[k]? = some x) : (restL u T ws)[k]? = some (u * x % T) := by simp [restL, hx]
theorem floor_len (u T : Int) (ws : List Int) : (floorL u T ws).length = ws.length := by simp [floorL]
theorem rest_len (u T : Int) (ws : List Int) : (restL u T ws).length = ws.length := by simp [restL]
theorem DivOk.floor {u : Int} {ws : List Int} (h : DivOk u ws) : ∀ x ∈ floorL u (sumL ws) ws, 0 ≤ x ∧ x ≤ u := by
  intro x hx
  obtain ⟨y, hy, rfl⟩ := List.mem_map.1 hx
  have := h.at_ hy
  omega
theorem DivOk.sum {u : Int} {ws : List Int} (h : DivOk u ws) (k : Nat) : -10000000000 ≤ sumL ((floorL u (sumL ws) ws).take k) ∧ sumL ((floorL u (sumL ws) ws).take k) ≤ 10000000000 := by
  have hf := h.floor
  have hu := h.u1
  have hn := h.n1
  have h0 := sumL_bound (zs := floorL u (sumL ws) ws) (B := 10000000) (by omega) (fun x hx => by have := hf x hx; omega)
  by_cases hk : k ≤ ws.length
  · have := h0 k; omega
  · have h1 := h0 ws.length
    rw [List.take_of_length_le (by rw [floor_len]; omega)] at h1 ⊢
    omega
set_option maxHeartbeats 4000000 in
theorem impl_divided_c (A : Option Addr) (n c : Nat) (u : Int) (zs : List Int) (w : World) (hn : zs.length = n) (h1 : 1 ≤ n) (hr : RI w A zs) (hok : DivOk u zs) :
    Calls Try.prog 96 #[.int .i64 u, .slice A n c] w fun e w' => ∃ g, e = .returned (.slice (some ⟨g, 0, none⟩) n n) ∧ OI w' w.heap.size w'.heap.size (some ⟨g, 0, none⟩) (divV u zs) ∧ Below w.heap.size w w' := by
  subst hn
  have hn1 := hok.n1
  have u0 := hok.u0
  have u1 := hok.u1
  have t0 := hok.t0
  have t1 := hok.t1
  have hz := Lib.hid (show ∀ x ∈ zs, -4000000000 ≤ x ∧ x ≤ 4000000000 from fun x hx => by have := hok.w x hx; omega)
  rcases hr.split with h0 | ⟨b, off, rfl, hb, hc⟩
  · omega
  have hmk := fun w => run_make_row' (P := Try.prog) 22 2 (.int .i64 0) 8 Try.underlying22 info_int rfl .i64 .i64 zs.length (by omega) (by omega) w
  have hm : zs.length ≤ 1048576 := by omega
  have hm' := hm
  go_enter Try.func96, Try.ntmps96
  go_wp2_with (go_at_call 87; refine (impl_sumOf_c _ _ _ zs _ rfl hm hr hz).mono ?_; rintro e w' ⟨rfl, rfl⟩)
  go_region
  · clear hmk
    have hst := Lib.hid (divSt_new w zs.length w.heap.size (w.heap.size + 1) (by first | exact .inl ⟨rfl, rfl⟩ | exact .inr ⟨rfl, rfl⟩))
    go_wp2_with fail
    go_loopw [8, 23] (fun l i wr => ∃ (k : Nat), l = .int .i64 (u - sumL ((floorL u (sumL zs) zs).take k)) ∧ i = .int .i64 k ∧ k ≤ zs.length ∧ Hid (DivSt w wr w.heap.size (w.heap.size + 1) ((floorL u (sumL zs) zs).take k ++ List.replicate (zs.length - k) 0) ((restL u (sumL zs) zs).take k ++ List.replicate (zs.length - k) 0))) (fun _ i _ => zs.length - (intOf i).toNat)
    case atStart => exact ⟨0, by simp [sumL], rfl, Nat.zero_le _, by simpa using hst⟩
    case round =>
      clear hst
      obtain ⟨k, rfl, rfl, hk, hst⟩ := hrel
      by_cases hlt : k < zs.length
      · obtain ⟨x, hx⟩ := get_some hlt
        obtain ⟨p0, p1, q0, q1, r0, r1⟩ := hok.at_ (List.mem_of_getElem? hx)
        obtain ⟨s0, s1⟩ := hok.sum k
        have hcx := (hst.out.below.cell (p := ⟨b, off + k, none⟩) hb).trans (hc.out k x hx)
        have l1 : ((floorL u (sumL zs) zs).take k ++ List.replicate (zs.length - k) 0).length = zs.length := by simp [floor_len]; omega
        have l2 : ((restL u (sumL zs) zs).take k ++ List.replicate (zs.length - k) 0).length = zs.length := by simp [rest_len]; omega
        obtain ⟨y1, hy1⟩ := get_some (zs := (floorL u (sumL zs) zs).take k ++ List.replicate (zs.length - k) 0) (k := k) (by omega)
        obtain ⟨y2, hy2⟩ := get_some (zs := (restL u (sumL zs) zs).take k ++ List.replicate (zs.length - k) 0) (k := k) (by omega)
        obtain ⟨c1, f1⟩ := hst.out.cells1 hy1
        obtain ⟨c2, f2⟩ := hst.out.cells2 hy2
        have HS := Lib.hid (sumL_step (floor_get (u := u) (T := sumL zs) hx))
        have H1 := Lib.hid (copy_two _ (floor_len u (sumL zs) zs) hlt (floor_get (u := u) (T := sumL zs) hx))
        have H2 := Lib.hid (copy_two _ (rest_len u (sumL zs) zs) hlt (rest_get (u := u) (T := sumL zs) hx))
        have D1 := Lib.hid ((hst.out.set1 (j := k) (by omega) (u * x / sumL zs)).set2 (j := k) (by omega) (u * x % sumL zs))
        have D2 := Lib.hid ((hst.out.set2 (j := k) (by omega) (u * x % sumL zs)).set1 (j := k) (by omega) (u * x / sumL zs))
        clear hx hy1 hy2 l1 l2
        have e1 : IntKind.i64.wrap (u * x) = u * x := by rw [IntKind.wrap_i64]; omega
        have e2 : (u * x).tdiv (sumL zs) = u * x / sumL zs := Int.tdiv_eq_ediv_of_nonneg p0
        have e3 : (u * x).tmod (sumL zs) = u * x % sumL zs := Int.tmod_eq_emod_of_nonneg p0
        have b1 : (k : Int) < (zs.length : Int) := by omega
        have b2 : (0 : Int) ≤ (k : Int) := by omega
        have b3 : ¬ sumL zs = 0 := by omega
        go_wp2_with fail
        go_region
        all_goals
          go_wp2_with fail
          go_roundw
          case rel =>
            refine ⟨k + 1, by rw [HS.out]; go_num, by go_num, by omega, Lib.hid ?_⟩
            rw [← H1.out, ← H2.out]
            first | exact D1.out.drew | exact D2.out.drew
          case measure => simp [intOf]; omega
      · have hke : k = zs.length := by omega
        have hst2 := hst.out
        rw [hke, List.take_of_length_le (by rw [floor_len]; omega), List.take_of_length_le (by rw [rest_len]; omega), Nat.sub_self, List.replicate_zero, List.append_nil, List.append_nil] at hst2
        have hl0 : u - sumL ((floorL u (sumL zs) zs).take k) = leftD u zs := by
          rw [hke, List.take_of_length_le (by rw [floor_len]; omega)]; rfl
        obtain ⟨s0, s1⟩ := hok.sum k
        have z0 : -100000000000 ≤ leftD u zs := by rw [← hl0]; omega
        have z1 : leftD u zs ≤ 100000000000 := by rw [← hl0]; omega
        rw [hl0]
        obtain ⟨P, hP⟩ : ∃ P, P = (floorL u (sumL zs) zs, restL u (sumL zs) zs) := ⟨_, rfl⟩
        have HB := Lib.hid (show ∀ k : Nat, ∀ x ∈ (giveK k P).1, 0 ≤ x ∧ x ≤ u + k by rw [hP]; exact giveK_bd (p := (floorL u (sumL zs) zs, restL u (sumL zs) zs)) hok.floor (by rw [floor_len, rest_len]) (by rw [rest_len]; omega))
        have HL1 := Lib.hid (show ∀ k : Nat, (giveK k P).1.length = zs.length by intro k; rw [giveK_len1, hP]; exact floor_len _ _ _)
        have HL2 := Lib.hid (show ∀ k : Nat, (giveK k P).2.length = zs.length by intro k; rw [giveK_len2, hP]; exact rest_len _ _ _)
        have HV := Lib.hid (show (giveK (leftD u zs).toNat P).1 = divV u zs by rw [hP]; rfl)
        have HS := Lib.hid (show DivSt w wr w.heap.size (w.heap.size + 1) (giveK 0 P).1 (giveK 0 P).2 by rw [hP]; exact hst2)
        clear hst hst2 hke hl0 s0 s1 hP
        obtain ⟨L, hL⟩ : ∃ L, leftD u zs = L := ⟨_, rfl⟩
        rw [hL] at z0 z1 HV ⊢
        clear hL
        go_wp2_with fail
        clear hc hr hz hk
        obtain ⟨wo, rfl⟩ : ∃ wo : World, wo = wr := ⟨_, rfl⟩
        go_loopw [8] (fun l wr => ∃ (j : Nat), l = .int .i64 (L - j) ∧ j ≤ L.toNat ∧ Hid (DivSt w wr w.heap.size (w.heap.size + 1) (giveK j P).1 (giveK j P).2)) (fun l _ => (intOf l).toNat)
        case atStart => exact ⟨0, by simp, Nat.zero_le _, HS⟩
        case round =>
          clear HS
          obtain ⟨j, rfl, hj, hs⟩ := hrel
          by_cases hlt : 0 < L - j
          · obtain ⟨m, hm⟩ : ∃ m, m = amaxL (giveK j P).2 := ⟨_, rfl⟩
            have hmn : m < zs.length := by have := amaxL_lt (r := (giveK j P).2) (by rw [HL2.out]; omega); rw [HL2.out] at this; omega
            obtain ⟨x, hx⟩ : ∃ x, x = (giveK j P).1.getD m 0 := ⟨_, rfl⟩
            obtain ⟨y, hy⟩ : ∃ y, y = (giveK j P).2.getD m 0 := ⟨_, rfl⟩
            have hgx : (giveK j P).1[m]? = some x := by rw [hx]; exact get_getD (by rw [HL1.out]; exact hmn)
            have hgy : (giveK j P).2[m]? = some y := by rw [hy]; exact get_getD (by rw [HL2.out]; exact hmn)
            obtain ⟨x0, x1⟩ := HB.out j x (List.mem_of_getElem? hgx)
            have hjb : (j : Int) ≤ 100000000000 := by omega
            obtain ⟨c1, f1⟩ := hs.out.cells1 hgx
            obtain ⟨c2, f2⟩ := hs.out.cells2 hgy
            have M1 := Lib.hid (show (giveK j P).2.getD (amaxL (giveK j P).2) 0 = y by rw [← hm]; exact hy.symm)
            have M2 := Lib.hid (show (giveK j P).2.getD m 0 = y from hy.symm)
            have M3 := Lib.hid (show ∀ i, i < m → (giveK j P).2.getD i 0 ≠ y by
              intro i hi
              rw [hy, hm]
              rw [hm] at hi
              exact Int.ne_of_lt (amaxTo_gt _ _ i hi))
            have DS := Lib.hid ((hs.out.set1 (j := m) (by rw [HL1.out]; exact hmn) (x + 1)).set2 (j := m) (by rw [HL2.out]; exact hmn) (-1))
            have DE := Lib.hid (show giveK (j + 1) P = ((giveK j P).1.set m (x + 1), (giveK j P).2.set m (-1)) by rw [hx, hm]; rfl)
            have hr2 := Lib.hid hs.out.r.ri
            clear hm hx hy hgx hgy hs
            have b1 : (m : Int) < (zs.length : Int) := by omega
            have b2 : (0 : Int) ≤ (m : Int) := by omega
            go_wp2_with (first
              | (go_at_call 152; refine (slices_Max_v _ _ _ _ y _ (HL2.out j) h1 hm' hr2.out M1).mono ?_; rintro e w' ⟨rfl, rfl⟩)
              | (go_at_call 151; refine (slices_Index_c _ _ _ _ y m _ (HL2.out j) hm' hr2.out hmn M2 M3).mono ?_; rintro e w' ⟨rfl, rfl⟩))
            go_roundw
            case rel =>
              refine ⟨j + 1, by go_num, by omega, Lib.hid ?_⟩
              rw [DE.out]
              exact DS.out
            case measure => simp [intOf]; omega
          · have hje : j = L.toNat := by omega
            have hs2 := hs.out.s
            rw [hje, HV.out] at hs2
            have hlt := OI.lt hs2 (by rw [divV_len]; omega)
            have HO := Lib.hid (hs2.widen (lo' := w.heap.size) (hi' := wr.heap.size) hs.out.l1 (by omega))
            have HBl := Lib.hid hs.out.below
            clear hje hs2 hs hlt
            go_wp2_with fail
            go_ret
            exact ⟨_, rfl, HO.out, HBl.out⟩
  · clear hmk
    have hst := Lib.hid (divSt_new w zs.length (w.heap.size + 1) w.heap.size (by first | exact .inl ⟨rfl, rfl⟩ | exact .inr ⟨rfl, rfl⟩))
    go_wp2_with fail
    go_loopw [8, 23] (fun l i wr => ∃ (k : Nat), l = .int .i64 (u - sumL ((floorL u (sumL zs) zs).take k)) ∧ i = .int .i64 k ∧ k ≤ zs.length ∧ Hid (DivSt w wr (w.heap.size + 1) w.heap.size ((floorL u (sumL zs) zs).take k ++ List.replicate (zs.length - k) 0) ((restL u (sumL zs) zs).take k ++ List.replicate (zs.length - k) 0))) (fun _ i _ => zs.length - (intOf i).toNat)
    case atStart => exact ⟨0, by simp [sumL], rfl, Nat.zero_le _, by simpa using hst⟩
    case round =>
      clear hst
      obtain ⟨k, rfl, rfl, hk, hst⟩ := hrel
      by_cases hlt : k < zs.length
      · obtain ⟨x, hx⟩ := get_some hlt
        obtain ⟨p0, p1, q0, q1, r0, r1⟩ := hok.at_ (List.mem_of_getElem? hx)
        obtain ⟨s0, s1⟩ := hok.sum k
        have hcx := (hst.out.below.cell (p := ⟨b, off + k, none⟩) hb).trans (hc.out k x hx)
        have l1 : ((floorL u (sumL zs) zs).take k ++ List.replicate (zs.length - k) 0).length = zs.length := by simp [floor_len]; omega
        have l2 : ((restL u (sumL zs) zs).take k ++ List.replicate (zs.length - k) 0).length = zs.length := by simp [rest_len]; omega
        obtain ⟨y1, hy1⟩ := get_some (zs := (floorL u (sumL zs) zs).take k ++ List.replicate (zs.length - k) 0) (k := k) (by omega)
        obtain ⟨y2, hy2⟩ := get_some (zs := (restL u (sumL zs) zs).take k ++ List.replicate (zs.length - k) 0) (k := k) (by omega)
        obtain ⟨c1, f1⟩ := hst.out.cells1 hy1
        obtain ⟨c2, f2⟩ := hst.out.cells2 hy2
        have HS := Lib.hid (sumL_step (floor_get (u := u) (T := sumL zs) hx))
        have H1 := Lib.hid (copy_two _ (floor_len u (sumL zs) zs) hlt (floor_get (u := u) (T := sumL zs) hx))
        have H2 := Lib.hid (copy_two _ (rest_len u (sumL zs) zs) hlt (rest_get (u := u) (T := sumL zs) hx))
        have D1 := Lib.hid ((hst.out.set1 (j := k) (by omega) (u * x / sumL zs)).set2 (j := k) (by omega) (u * x % sumL zs))
        have D2 := Lib.hid ((hst.out.set2 (j := k) (by omega) (u * x % sumL zs)).set1 (j := k) (by omega) (u * x / sumL zs))
        clear hx hy1 hy2 l1 l2
        have e1 : IntKind.i64.wrap (u * x) = u * x := by rw [IntKind.wrap_i64]; omega
        have e2 : (u * x).tdiv (sumL zs) = u * x / sumL zs := Int.tdiv_eq_ediv_of_nonneg p0
        have e3 : (u * x).tmod (sumL zs) = u * x % sumL zs := Int.tmod_eq_emod_of_nonneg p0
        have b1 : (k : Int) < (zs.length : Int) := by omega
        have b2 : (0 : Int) ≤ (k : Int) := by omega
        have b3 : ¬ sumL zs = 0 := by omega
        go_wp2_with fail
        go_region
        all_goals
          go_wp2_with fail
          go_roundw
          case rel =>
            refine ⟨k + 1, by rw [HS.out]; go_num, by go_num, by omega, Lib.hid ?_⟩
            rw [← H1.out, ← H2.out]
            first | exact D1.out.drew | exact D2.out.drew
          case measure => simp [intOf]; omega
      · have hke : k = zs.length := by omega
        have hst2 := hst.out
        rw [hke, List.take_of_length_le (by rw [floor_len]; omega), List.take_of_length_le (by rw [rest_len]; omega), Nat.sub_self, List.replicate_zero, List.append_nil, List.append_nil] at hst2
        have hl0 : u - sumL ((floorL u (sumL zs) zs).take k) = leftD u zs := by
          rw [hke, List.take_of_length_le (by rw [floor_len]; omega)]; rfl
        obtain ⟨s0, s1⟩ := hok.sum k
        have z0 : -100000000000 ≤ leftD u zs := by rw [← hl0]; omega
        have z1 : leftD u zs ≤ 100000000000 := by rw [← hl0]; omega
        rw [hl0]
        obtain ⟨P, hP⟩ : ∃ P, P = (floorL u (sumL zs) zs, restL u (sumL zs) zs) := ⟨_, rfl⟩
        have HB := Lib.hid (show ∀ k : Nat, ∀ x ∈ (giveK k P).1, 0 ≤ x ∧ x ≤ u + k by rw [hP]; exact giveK_bd (p := (floorL u (sumL zs) zs, restL u (sumL zs) zs)) hok.floor (by rw [floor_len, rest_len]) (by rw [rest_len]; omega))
        have HL1 := Lib.hid (show ∀ k : Nat, (giveK k P).1.length = zs.length by intro k; rw [giveK_len1, hP]; exact floor_len _ _ _)
        have HL2 := Lib.hid (show ∀ k : Nat, (giveK k P).2.length = zs.length by intro k; rw [giveK_len2, hP]; exact rest_len _ _ _)
        have HV := Lib.hid (show (giveK (leftD u zs).toNat P).1 = divV u zs by rw [hP]; rfl)
        have HS := Lib.hid (show DivSt w wr (w.heap.size + 1) w.heap.size (giveK 0 P).1 (giveK 0 P).2 by rw [hP]; exact hst2)
        clear hst hst2 hke hl0 s0 s1 hP
        obtain ⟨L, hL⟩ : ∃ L, leftD u zs = L := ⟨_, rfl⟩
        rw [hL] at z0 z1 HV ⊢
        clear hL
        go_wp2_with fail
        clear hc hr hz hk
        obtain ⟨wo, rfl⟩ : ∃ wo : World, wo = wr := ⟨_, rfl⟩
        go_loopw [8] (fun l wr => ∃ (j : Nat), l = .int .i64 (L - j) ∧ j ≤ L.toNat ∧ Hid (DivSt w wr (w.heap.size + 1) w.heap.size (giveK j P).1 (giveK j P).2)) (fun l _ => (intOf l).toNat)
        case atStart => exact ⟨0, by simp, Nat.zero_le _, HS⟩
        case round =>
          clear HS
          obtain ⟨j, rfl, hj, hs⟩ := hrel
          by_cases hlt : 0 < L - j
          · obtain ⟨m, hm⟩ : ∃ m, m = amaxL (giveK j P).2 := ⟨_, rfl⟩
            have hmn : m < zs.length := by have := amaxL_lt (r := (giveK j P).2) (by rw [HL2.out]; omega); rw [HL2.out] at this; omega
            obtain ⟨x, hx⟩ : ∃ x, x = (giveK j P).1.getD m 0 := ⟨_, rfl⟩
            obtain ⟨y, hy⟩ : ∃ y, y = (giveK j P).2.getD m 0 := ⟨_, rfl⟩
            have hgx : (giveK j P).1[m]? = some x := by rw [hx]; exact get_getD (by rw [HL1.out]; exact hmn)
            have hgy : (giveK j P).2[m]? = some y := by rw [hy]; exact get_getD (by rw [HL2.out]; exact hmn)
            obtain ⟨x0, x1⟩ := HB.out j x (List.mem_of_getElem? hgx)
            have hjb : (j : Int) ≤ 100000000000 := by omega
            obtain ⟨c1, f1⟩ := hs.out.cells1 hgx
            obtain ⟨c2, f2⟩ := hs.out.cells2 hgy
            have M1 := Lib.hid (show (giveK j P).2.getD (amaxL (giveK j P).2) 0 = y by rw [← hm]; exact hy.symm)
            have M2 := Lib.hid (show (giveK j P).2.getD m 0 = y from hy.symm)
            have M3 := Lib.hid (show ∀ i, i < m → (giveK j P).2.getD i 0 ≠ y by
              intro i hi
              rw [hy, hm]
              rw [hm] at hi
              exact Int.ne_of_lt (amaxTo_gt _ _ i hi))
            have DS := Lib.hid ((hs.out.set1 (j := m) (by rw [HL1.out]; exact hmn) (x + 1)).set2 (j := m) (by rw [HL2.out]; exact hmn) (-1))
            have DE := Lib.hid (show giveK (j + 1) P = ((giveK j P).1.set m (x + 1), (giveK j P).2.set m (-1)) by rw [hx, hm]; rfl)
            have hr2 := Lib.hid hs.out.r.ri
            clear hm hx hy hgx hgy hs
            have b1 : (m : Int) < (zs.length : Int) := by omega
            have b2 : (0 : Int) ≤ (m : Int) := by omega
            go_wp2_with (first
              | (go_at_call 152; refine (slices_Max_v _ _ _ _ y _ (HL2.out j) h1 hm' hr2.out M1).mono ?_; rintro e w' ⟨rfl, rfl⟩)
              | (go_at_call 151; refine (slices_Index_c _ _ _ _ y m _ (HL2.out j) hm' hr2.out hmn M2 M3).mono ?_; rintro e w' ⟨rfl, rfl⟩))
            go_roundw
            case rel =>
              refine ⟨j + 1, by go_num, by omega, Lib.hid ?_⟩
              rw [DE.out]
              exact DS.out
            case measure => simp [intOf]; omega
          · have hje : j = L.toNat := by omega
            have hs2 := hs.out.s
            rw [hje, HV.out] at hs2
            have hlt := OI.lt hs2 (by rw [divV_len]; omega)
            have HO := Lib.hid (hs2.widen (lo' := w.heap.size) (hi' := wr.heap.size) hs.out.l1 (by omega))
            have HBl := Lib.hid hs.out.below
            clear hje hs2 hs hlt
            go_wp2_with fail
            go_ret
            exact ⟨_, rfl, HO.out, HBl.out⟩
end Go.Proofs.Ythpgkngkmmameaa
