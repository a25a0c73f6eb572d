/-
  Texts of this proof in one: Divide, IcmChip, Chop, ChopSpec, Pair, DivSpec, Deals, DealsB, RowShape, ChopRow, DealsC, DivLaw, ChopLaw, TourFacts, DrawWorst, ChopImpl, Like, LawSum. Conditions: those of each contract.
-/
import Derived.Test.YthpgkngkmmameaaDiv
import Derived.RegionTactic
import Derived.Test.YthpgkngkmmameaaIcmTop
import Derived.Test.YthpgkngkmmameaaNeg
import Derived.Test.YthpgkngkmmameaaAccept
import Derived.Test.YthpgkngkmmameaaWorstSpec
import Derived.IntWalk
import Derived.Test.YthpgkngkmmameaaMem
import Derived.Deep.AppendLies
import Derived.Test.YthpgkngkmmameaaOwn
import Derived.Test.YthpgkngkmmameaaArg
import Derived.Test.YthpgkngkmmameaaPrizes
import Derived.Test.YthpgkngkmmameaaDivFacts
import Derived.Test.YthpgkngkmmameaaRicmD
import Derived.Test.YthpgkngkmmameaaFieldEq
import Derived.Test.YthpgkngkmmameaaCompare
import Derived.Test.YthpgkngkmmameaaWorst
import Derived.Test.YthpgkngkmmameaaDrawIcm
import Derived.Test.YthpgkngkmmameaaPlainList
import Derived.Test.YthpgkngkmmameaaSums
namespace Go.Proofs.Ythpgkngkmmameaa
open Go.RowKit
set_option linter.unusedVariables false
/-- Two rows of the call's own. -/
structure DivSt (w wr : World) (g1 g2 : Nat) (ss rs : List Int) : Prop where
  ne : g1 ≠ g2
  s : OI wr g1 (g1 + 1) (some ⟨g1, 0, none⟩) ss
  r : OI wr g2 (g2 + 1) (some ⟨g2, 0, none⟩) rs
  below : Below w.heap.size w wr
  l1 : w.heap.size ≤ g1
  l2 : w.heap.size ≤ g2
theorem Kept.at_ {a b : World} (g : Nat) (j : Nat) (u : Value) (h : b = a.setCell ⟨g, j, none⟩ u) : Kept g (g + 1) a b := by
  subst h
  exact (Kept.refl g (g + 1) a).setCell (.inl ⟨Nat.le_refl _, by simp⟩) u
theorem DivSt.set1 {w wr : World} {g1 g2 : Nat} {ss rs : List Int} (h : DivSt w wr g1 g2 ss rs) {j : Nat} (hj : j < ss.length) (x : Int) : DivSt w (wr.setCell ⟨g1, j, none⟩ (.int .i64 x)) g1 g2 (ss.set j x) rs := by
  have h1 := h.s.set hj x
  rw [Nat.zero_add] at h1
  have hne := h.ne
  exact ⟨h.ne, h1, h.r.kept (Kept.at_ g1 j _ rfl) (by omega), h.below.setCell h.l1 _, h.l1, h.l2⟩
theorem DivSt.set2 {w wr : World} {g1 g2 : Nat} {ss rs : List Int} (h : DivSt w wr g1 g2 ss rs) {j : Nat} (hj : j < rs.length) (x : Int) : DivSt w (wr.setCell ⟨g2, j, none⟩ (.int .i64 x)) g1 g2 ss (rs.set j x) := by
  have h1 := h.r.set hj x
  rw [Nat.zero_add] at h1
  have hne := h.ne
  exact ⟨h.ne, h.s.kept (Kept.at_ g2 j _ rfl) (by omega), h1, h.below.setCell h.l2 _, h.l1, h.l2⟩
theorem DivSt.drew {w wr : World} {g1 g2 : Nat} {ss rs : List Int} (h : DivSt w wr g1 g2 ss rs) : DivSt w wr.drew g1 g2 ss rs := ⟨h.ne, h.s, h.r, h.below.drew, h.l1, h.l2⟩
theorem DivSt.drewN {w wr : World} {g1 g2 : Nat} {ss rs : List Int} (h : DivSt w wr g1 g2 ss rs) (q : Nat) : DivSt w (wr.drewN q) g1 g2 ss rs := ⟨h.ne, h.s, h.r, below_drewN h.below _, h.l1, h.l2⟩
theorem DivSt.cells1 {w wr : World} {g1 g2 : Nat} {ss rs : List Int} (h : DivSt w wr g1 g2 ss rs) {j : Nat} {x : Int} (hx : ss[j]? = some x) : wr.cell? ⟨g1, j, none⟩ = some (.int .i64 x) ∧ wr.frozen? ⟨g1, j, none⟩ = false := by
  rcases h.s with e | ⟨b, off, e, _, _, _, hc, hf⟩
  · rw [e] at hx; simp at hx
  · injection e with e; injection e with e1 e2; subst e1 e2
    have := hc j x hx
    rw [Nat.zero_add] at this
    exact ⟨this, hf j⟩
theorem DivSt.cells2 {w wr : World} {g1 g2 : Nat} {ss rs : List Int} (h : DivSt w wr g1 g2 ss rs) {j : Nat} {x : Int} (hx : rs[j]? = some x) : wr.cell? ⟨g2, j, none⟩ = some (.int .i64 x) ∧ wr.frozen? ⟨g2, j, none⟩ = false := by
  rcases h.r with e | ⟨b, off, e, _, _, _, hc, hf⟩
  · rw [e] at hx; simp at hx
  · injection e with e; injection e with e1 e2; subst e1 e2
    have := hc j x hx
    rw [Nat.zero_add] at this
    exact ⟨this, hf j⟩
theorem divSt_new (w : World) (n : Nat) (a b : Nat) (hab : a = w.heap.size ∧ b = w.heap.size + 1 ∨ a = w.heap.size + 1 ∧ b = w.heap.size) :
    DivSt w (((w.alloc (.cells (madeCells #[.int .i64 0] n) 2)).alloc (.cells (madeCells #[.int .i64 0] n) 2)).drew) a b (List.replicate n 0) (List.replicate n 0) := by
  have h1 := (OI.made w n).below ((Below.refl _ _).alloc (Nat.le_refl _) (.cells (madeCells #[.int .i64 0] n) 2))
  have h2 := OI.made (w.alloc (.cells (madeCells #[.int .i64 0] n) 2)) n
  rw [show (w.alloc (.cells (madeCells #[.int .i64 0] n) 2)).heap.size = w.heap.size + 1 by simp] at h2
  have hb : Below w.heap.size w (((w.alloc (.cells (madeCells #[.int .i64 0] n) 2)).alloc (.cells (madeCells #[.int .i64 0] n) 2)).drew) := (((Below.refl _ _).alloc (Nat.le_refl _) _).alloc (by simp) _).drew
  rcases hab with ⟨rfl, rfl⟩ | ⟨rfl, rfl⟩
  · exact ⟨by omega, h1, h2, hb, by omega, by omega⟩
  · exact ⟨by omega, h2, h1, hb, by omega, by omega⟩
theorem copy_two (l : List Int) {n k : Nat} {x : Int} (hn : l.length = n) (hk : k < n) (hx : l[k]? = some x) : (l.take k ++ List.replicate (n - k) 0).set k x = l.take (k + 1) ++ List.replicate (n - (k + 1)) 0 := copy_step l n k x hn hk hx
/-- What the division's parts bear. -/
structure DivOk (u : Int) (ws : List Int) : Prop where
  u0 : 0 ≤ u
  u1 : u ≤ 10000000
  w : ∀ x ∈ ws, 0 ≤ x ∧ x ≤ 10000000
  t0 : 1 ≤ sumL ws
  n1 : ws.length ≤ 1000
theorem mem_le_sum {l : List Int} (h : ∀ x ∈ l, 0 ≤ x) : ∀ x ∈ l, x ≤ sumD l := by
  induction l with
  | nil => intro x hx; simp at hx
  | cons y l ih =>
    intro x hx
    have h1 := sumD_nonneg (fun z hz => h z (List.mem_cons_of_mem y hz))
    have h2 := h y (by simp)
    rw [sumD_cons]
    rcases List.mem_cons.1 hx with rfl | hx
    · omega
    · have := ih (fun z hz => h z (List.mem_cons_of_mem y hz)) x hx; omega
theorem DivOk.t1 {u : Int} {ws : List Int} (h : DivOk u ws) : sumL ws ≤ 10000000000 := by
  have := (sumL_bound (zs := ws) (B := 10000000) (by omega) (fun x hx => by have := h.w x hx; omega) ws.length).2
  rw [List.take_length] at this
  have := h.n1
  omega
theorem DivOk.at_ {u : Int} {ws : List Int} (h : DivOk u ws) {x : Int} (hx : x ∈ ws) : 0 ≤ u * x ∧ u * x ≤ 100000000000000 ∧ 0 ≤ u * x / sumL ws ∧ u * x / sumL ws ≤ u ∧ 0 ≤ u * x % sumL ws ∧ u * x % sumL ws < sumL ws := by
  obtain ⟨x0, x1⟩ := h.w x hx
  have hu0 := h.u0
  have hu1 := h.u1
  have ht := h.t0
  have hxs : x ≤ sumL ws := mem_le_sum (fun z hz => (h.w z hz).1) x hx
  have p0 := Int.mul_nonneg hu0 x0
  have p1 : u * x ≤ u * 10000000 := Int.mul_le_mul_of_nonneg_left x1 hu0
  have p2 : u * x ≤ u * sumL ws := Int.mul_le_mul_of_nonneg_left hxs hu0
  refine ⟨p0, by omega, Int.ediv_nonneg p0 (by omega), ?_, Int.emod_nonneg _ (by omega), Int.emod_lt_of_pos _ (by omega)⟩
  exact Int.ediv_le_of_le_mul (by omega) p2
theorem floor_get {u T : Int} {ws : List Int} {k : Nat} {x : Int} (hx : ws[k]? = some x) : (floorL u T ws)[k]? = some (u * x / T) := by simp [floorL, hx]
theorem rest_get {u T : Int} {ws : List Int} {k : Nat} {x : Int} (hx : ws[k]? = some x) : (restL u T ws)[k]? = some (u * x % T) := by simp [restL, hx]
theorem floor_len (u T : Int) (ws : List Int) : (floorL u T ws).length = ws.length := by simp [floorL]
theorem rest_len (u T : Int) (ws : List Int) : (restL u T ws).length = ws.length := by simp [restL]
theorem DivOk.floor {u : Int} {ws : List Int} (h : DivOk u ws) : ∀ x ∈ floorL u (sumL ws) ws, 0 ≤ x ∧ x ≤ u := by
  intro x hx
  obtain ⟨y, hy, rfl⟩ := List.mem_map.1 hx
  have := h.at_ hy
  omega
theorem DivOk.sum {u : Int} {ws : List Int} (h : DivOk u ws) (k : Nat) : -10000000000 ≤ sumL ((floorL u (sumL ws) ws).take k) ∧ sumL ((floorL u (sumL ws) ws).take k) ≤ 10000000000 := by
  have hf := h.floor
  have hu := h.u1
  have hn := h.n1
  have h0 := sumL_bound (zs := floorL u (sumL ws) ws) (B := 10000000) (by omega) (fun x hx => by have := hf x hx; omega)
  by_cases hk : k ≤ ws.length
  · have := h0 k; omega
  · have h1 := h0 ws.length
    rw [List.take_of_length_le (by rw [floor_len]; omega)] at h1 ⊢
    omega
set_option maxHeartbeats 4000000 in
theorem impl_divided_c (A : Option Addr) (n c : Nat) (u : Int) (zs : List Int) (w : World) (hn : zs.length = n) (h1 : 1 ≤ n) (hr : RI w A zs) (hok : DivOk u zs) :
    Calls Try.prog 96 #[.int .i64 u, .slice A n c] w fun e w' => ∃ g, e = .returned (.slice (some ⟨g, 0, none⟩) n n) ∧ OI w' w.heap.size w'.heap.size (some ⟨g, 0, none⟩) (divV u zs) ∧ Below w.heap.size w w' := by
  subst hn
  have hn1 := hok.n1
  have u0 := hok.u0
  have u1 := hok.u1
  have t0 := hok.t0
  have t1 := hok.t1
  have hz := Lib.hid (show ∀ x ∈ zs, -4000000000 ≤ x ∧ x ≤ 4000000000 from fun x hx => by have := hok.w x hx; omega)
  rcases hr.split with h0 | ⟨b, off, rfl, hb, hc⟩
  · omega
  have hmk := fun w => run_make_row' (P := Try.prog) 22 2 (.int .i64 0) 8 Try.underlying22 info_int rfl .i64 .i64 zs.length (by omega) (by omega) w
  have hm : zs.length ≤ 1048576 := by omega
  have hm' := hm
  go_enter Try.func96, Try.ntmps96
  go_wp2_with (go_at_call 87; refine (impl_sumOf_c _ _ _ zs _ rfl hm hr hz).mono ?_; rintro e w' ⟨rfl, rfl⟩)
  go_region
  · clear hmk
    have hst := Lib.hid (divSt_new w zs.length w.heap.size (w.heap.size + 1) (by first | exact .inl ⟨rfl, rfl⟩ | exact .inr ⟨rfl, rfl⟩))
    go_wp2_with fail
    go_loopw [8, 23] (fun l i wr => ∃ (k : Nat), l = .int .i64 (u - sumL ((floorL u (sumL zs) zs).take k)) ∧ i = .int .i64 k ∧ k ≤ zs.length ∧ Hid (DivSt w wr w.heap.size (w.heap.size + 1) ((floorL u (sumL zs) zs).take k ++ List.replicate (zs.length - k) 0) ((restL u (sumL zs) zs).take k ++ List.replicate (zs.length - k) 0))) (fun _ i _ => zs.length - (intOf i).toNat)
    case atStart => exact ⟨0, by simp [sumL], rfl, Nat.zero_le _, by simpa using hst⟩
    case round =>
      clear hst
      obtain ⟨k, rfl, rfl, hk, hst⟩ := hrel
      by_cases hlt : k < zs.length
      · obtain ⟨x, hx⟩ := get_some hlt
        obtain ⟨p0, p1, q0, q1, r0, r1⟩ := hok.at_ (List.mem_of_getElem? hx)
        obtain ⟨s0, s1⟩ := hok.sum k
        have hcx := (hst.out.below.cell (p := ⟨b, off + k, none⟩) hb).trans (hc.out k x hx)
        have l1 : ((floorL u (sumL zs) zs).take k ++ List.replicate (zs.length - k) 0).length = zs.length := by simp [floor_len]; omega
        have l2 : ((restL u (sumL zs) zs).take k ++ List.replicate (zs.length - k) 0).length = zs.length := by simp [rest_len]; omega
        obtain ⟨y1, hy1⟩ := get_some (zs := (floorL u (sumL zs) zs).take k ++ List.replicate (zs.length - k) 0) (k := k) (by omega)
        obtain ⟨y2, hy2⟩ := get_some (zs := (restL u (sumL zs) zs).take k ++ List.replicate (zs.length - k) 0) (k := k) (by omega)
        obtain ⟨c1, f1⟩ := hst.out.cells1 hy1
        obtain ⟨c2, f2⟩ := hst.out.cells2 hy2
        have HS := Lib.hid (sumL_step (floor_get (u := u) (T := sumL zs) hx))
        have H1 := Lib.hid (copy_two _ (floor_len u (sumL zs) zs) hlt (floor_get (u := u) (T := sumL zs) hx))
        have H2 := Lib.hid (copy_two _ (rest_len u (sumL zs) zs) hlt (rest_get (u := u) (T := sumL zs) hx))
        have D1 := Lib.hid ((hst.out.set1 (j := k) (by omega) (u * x / sumL zs)).set2 (j := k) (by omega) (u * x % sumL zs))
        have D2 := Lib.hid ((hst.out.set2 (j := k) (by omega) (u * x % sumL zs)).set1 (j := k) (by omega) (u * x / sumL zs))
        clear hx hy1 hy2 l1 l2
        have e1 : IntKind.i64.wrap (u * x) = u * x := by rw [IntKind.wrap_i64]; omega
        have e2 : (u * x).tdiv (sumL zs) = u * x / sumL zs := Int.tdiv_eq_ediv_of_nonneg p0
        have e3 : (u * x).tmod (sumL zs) = u * x % sumL zs := Int.tmod_eq_emod_of_nonneg p0
        have b1 : (k : Int) < (zs.length : Int) := by omega
        have b2 : (0 : Int) ≤ (k : Int) := by omega
        have b3 : ¬ sumL zs = 0 := by omega
        go_wp2_with fail
        go_region
        all_goals
          go_wp2_with fail
          go_roundw
          case rel =>
            refine ⟨k + 1, by rw [HS.out]; go_num, by go_num, by omega, Lib.hid ?_⟩
            rw [← H1.out, ← H2.out]
            first | exact D1.out.drew | exact D2.out.drew
          case measure => simp [intOf]; omega
      · have hke : k = zs.length := by omega
        have hst2 := hst.out
        rw [hke, List.take_of_length_le (by rw [floor_len]; omega), List.take_of_length_le (by rw [rest_len]; omega), Nat.sub_self, List.replicate_zero, List.append_nil, List.append_nil] at hst2
        have hl0 : u - sumL ((floorL u (sumL zs) zs).take k) = leftD u zs := by
          rw [hke, List.take_of_length_le (by rw [floor_len]; omega)]; rfl
        obtain ⟨s0, s1⟩ := hok.sum k
        have z0 : -100000000000 ≤ leftD u zs := by rw [← hl0]; omega
        have z1 : leftD u zs ≤ 100000000000 := by rw [← hl0]; omega
        rw [hl0]
        obtain ⟨P, hP⟩ : ∃ P, P = (floorL u (sumL zs) zs, restL u (sumL zs) zs) := ⟨_, rfl⟩
        have HB := Lib.hid (show ∀ k : Nat, ∀ x ∈ (giveK k P).1, 0 ≤ x ∧ x ≤ u + k by rw [hP]; exact giveK_bd (p := (floorL u (sumL zs) zs, restL u (sumL zs) zs)) hok.floor (by rw [floor_len, rest_len]) (by rw [rest_len]; omega))
        have HL1 := Lib.hid (show ∀ k : Nat, (giveK k P).1.length = zs.length by intro k; rw [giveK_len1, hP]; exact floor_len _ _ _)
        have HL2 := Lib.hid (show ∀ k : Nat, (giveK k P).2.length = zs.length by intro k; rw [giveK_len2, hP]; exact rest_len _ _ _)
        have HV := Lib.hid (show (giveK (leftD u zs).toNat P).1 = divV u zs by rw [hP]; rfl)
        have HS := Lib.hid (show DivSt w wr w.heap.size (w.heap.size + 1) (giveK 0 P).1 (giveK 0 P).2 by rw [hP]; exact hst2)
        clear hst hst2 hke hl0 s0 s1 hP
        obtain ⟨L, hL⟩ : ∃ L, leftD u zs = L := ⟨_, rfl⟩
        rw [hL] at z0 z1 HV ⊢
        clear hL
        go_wp2_with fail
        clear hc hr hz hk
        obtain ⟨wo, rfl⟩ : ∃ wo : World, wo = wr := ⟨_, rfl⟩
        go_loopw [8] (fun l wr => ∃ (j : Nat), l = .int .i64 (L - j) ∧ j ≤ L.toNat ∧ Hid (DivSt w wr w.heap.size (w.heap.size + 1) (giveK j P).1 (giveK j P).2)) (fun l _ => (intOf l).toNat)
        case atStart => exact ⟨0, by simp, Nat.zero_le _, HS⟩
        case round =>
          clear HS
          obtain ⟨j, rfl, hj, hs⟩ := hrel
          by_cases hlt : 0 < L - j
          · obtain ⟨m, hm⟩ : ∃ m, m = amaxL (giveK j P).2 := ⟨_, rfl⟩
            have hmn : m < zs.length := by have := amaxL_lt (r := (giveK j P).2) (by rw [HL2.out]; omega); rw [HL2.out] at this; omega
            obtain ⟨x, hx⟩ : ∃ x, x = (giveK j P).1.getD m 0 := ⟨_, rfl⟩
            obtain ⟨y, hy⟩ : ∃ y, y = (giveK j P).2.getD m 0 := ⟨_, rfl⟩
            have hgx : (giveK j P).1[m]? = some x := by rw [hx]; exact get_getD (by rw [HL1.out]; exact hmn)
            have hgy : (giveK j P).2[m]? = some y := by rw [hy]; exact get_getD (by rw [HL2.out]; exact hmn)
            obtain ⟨x0, x1⟩ := HB.out j x (List.mem_of_getElem? hgx)
            have hjb : (j : Int) ≤ 100000000000 := by omega
            obtain ⟨c1, f1⟩ := hs.out.cells1 hgx
            obtain ⟨c2, f2⟩ := hs.out.cells2 hgy
            have M1 := Lib.hid (show (giveK j P).2.getD (amaxL (giveK j P).2) 0 = y by rw [← hm]; exact hy.symm)
            have M2 := Lib.hid (show (giveK j P).2.getD m 0 = y from hy.symm)
            have M3 := Lib.hid (show ∀ i, i < m → (giveK j P).2.getD i 0 ≠ y by
              intro i hi
              rw [hy, hm]
              rw [hm] at hi
              exact Int.ne_of_lt (amaxTo_gt _ _ i hi))
            have DS := Lib.hid ((hs.out.set1 (j := m) (by rw [HL1.out]; exact hmn) (x + 1)).set2 (j := m) (by rw [HL2.out]; exact hmn) (-1))
            have DE := Lib.hid (show giveK (j + 1) P = ((giveK j P).1.set m (x + 1), (giveK j P).2.set m (-1)) by rw [hx, hm]; rfl)
            have hr2 := Lib.hid hs.out.r.ri
            clear hm hx hy hgx hgy hs
            have b1 : (m : Int) < (zs.length : Int) := by omega
            have b2 : (0 : Int) ≤ (m : Int) := by omega
            go_wp2_with (first
              | (go_at_call 152; refine (slices_Max_v _ _ _ _ y _ (HL2.out j) h1 hm' hr2.out M1).mono ?_; rintro e w' ⟨rfl, rfl⟩)
              | (go_at_call 151; refine (slices_Index_c _ _ _ _ y m _ (HL2.out j) hm' hr2.out hmn M2 M3).mono ?_; rintro e w' ⟨rfl, rfl⟩))
            go_roundw
            case rel =>
              refine ⟨j + 1, by go_num, by omega, Lib.hid ?_⟩
              rw [DE.out]
              exact DS.out
            case measure => simp [intOf]; omega
          · have hje : j = L.toNat := by omega
            have hs2 := hs.out.s
            rw [hje, HV.out] at hs2
            have hlt := OI.lt hs2 (by rw [divV_len]; omega)
            have HO := Lib.hid (hs2.widen (lo' := w.heap.size) (hi' := wr.heap.size) hs.out.l1 (by omega))
            have HBl := Lib.hid hs.out.below
            clear hje hs2 hs hlt
            go_wp2_with fail
            go_ret
            exact ⟨_, rfl, HO.out, HBl.out⟩
  · clear hmk
    have hst := Lib.hid (divSt_new w zs.length (w.heap.size + 1) w.heap.size (by first | exact .inl ⟨rfl, rfl⟩ | exact .inr ⟨rfl, rfl⟩))
    go_wp2_with fail
    go_loopw [8, 23] (fun l i wr => ∃ (k : Nat), l = .int .i64 (u - sumL ((floorL u (sumL zs) zs).take k)) ∧ i = .int .i64 k ∧ k ≤ zs.length ∧ Hid (DivSt w wr (w.heap.size + 1) w.heap.size ((floorL u (sumL zs) zs).take k ++ List.replicate (zs.length - k) 0) ((restL u (sumL zs) zs).take k ++ List.replicate (zs.length - k) 0))) (fun _ i _ => zs.length - (intOf i).toNat)
    case atStart => exact ⟨0, by simp [sumL], rfl, Nat.zero_le _, by simpa using hst⟩
    case round =>
      clear hst
      obtain ⟨k, rfl, rfl, hk, hst⟩ := hrel
      by_cases hlt : k < zs.length
      · obtain ⟨x, hx⟩ := get_some hlt
        obtain ⟨p0, p1, q0, q1, r0, r1⟩ := hok.at_ (List.mem_of_getElem? hx)
        obtain ⟨s0, s1⟩ := hok.sum k
        have hcx := (hst.out.below.cell (p := ⟨b, off + k, none⟩) hb).trans (hc.out k x hx)
        have l1 : ((floorL u (sumL zs) zs).take k ++ List.replicate (zs.length - k) 0).length = zs.length := by simp [floor_len]; omega
        have l2 : ((restL u (sumL zs) zs).take k ++ List.replicate (zs.length - k) 0).length = zs.length := by simp [rest_len]; omega
        obtain ⟨y1, hy1⟩ := get_some (zs := (floorL u (sumL zs) zs).take k ++ List.replicate (zs.length - k) 0) (k := k) (by omega)
        obtain ⟨y2, hy2⟩ := get_some (zs := (restL u (sumL zs) zs).take k ++ List.replicate (zs.length - k) 0) (k := k) (by omega)
        obtain ⟨c1, f1⟩ := hst.out.cells1 hy1
        obtain ⟨c2, f2⟩ := hst.out.cells2 hy2
        have HS := Lib.hid (sumL_step (floor_get (u := u) (T := sumL zs) hx))
        have H1 := Lib.hid (copy_two _ (floor_len u (sumL zs) zs) hlt (floor_get (u := u) (T := sumL zs) hx))
        have H2 := Lib.hid (copy_two _ (rest_len u (sumL zs) zs) hlt (rest_get (u := u) (T := sumL zs) hx))
        have D1 := Lib.hid ((hst.out.set1 (j := k) (by omega) (u * x / sumL zs)).set2 (j := k) (by omega) (u * x % sumL zs))
        have D2 := Lib.hid ((hst.out.set2 (j := k) (by omega) (u * x % sumL zs)).set1 (j := k) (by omega) (u * x / sumL zs))
        clear hx hy1 hy2 l1 l2
        have e1 : IntKind.i64.wrap (u * x) = u * x := by rw [IntKind.wrap_i64]; omega
        have e2 : (u * x).tdiv (sumL zs) = u * x / sumL zs := Int.tdiv_eq_ediv_of_nonneg p0
        have e3 : (u * x).tmod (sumL zs) = u * x % sumL zs := Int.tmod_eq_emod_of_nonneg p0
        have b1 : (k : Int) < (zs.length : Int) := by omega
        have b2 : (0 : Int) ≤ (k : Int) := by omega
        have b3 : ¬ sumL zs = 0 := by omega
        go_wp2_with fail
        go_region
        all_goals
          go_wp2_with fail
          go_roundw
          case rel =>
            refine ⟨k + 1, by rw [HS.out]; go_num, by go_num, by omega, Lib.hid ?_⟩
            rw [← H1.out, ← H2.out]
            first | exact D1.out.drew | exact D2.out.drew
          case measure => simp [intOf]; omega
      · have hke : k = zs.length := by omega
        have hst2 := hst.out
        rw [hke, List.take_of_length_le (by rw [floor_len]; omega), List.take_of_length_le (by rw [rest_len]; omega), Nat.sub_self, List.replicate_zero, List.append_nil, List.append_nil] at hst2
        have hl0 : u - sumL ((floorL u (sumL zs) zs).take k) = leftD u zs := by
          rw [hke, List.take_of_length_le (by rw [floor_len]; omega)]; rfl
        obtain ⟨s0, s1⟩ := hok.sum k
        have z0 : -100000000000 ≤ leftD u zs := by rw [← hl0]; omega
        have z1 : leftD u zs ≤ 100000000000 := by rw [← hl0]; omega
        rw [hl0]
        obtain ⟨P, hP⟩ : ∃ P, P = (floorL u (sumL zs) zs, restL u (sumL zs) zs) := ⟨_, rfl⟩
        have HB := Lib.hid (show ∀ k : Nat, ∀ x ∈ (giveK k P).1, 0 ≤ x ∧ x ≤ u + k by rw [hP]; exact giveK_bd (p := (floorL u (sumL zs) zs, restL u (sumL zs) zs)) hok.floor (by rw [floor_len, rest_len]) (by rw [rest_len]; omega))
        have HL1 := Lib.hid (show ∀ k : Nat, (giveK k P).1.length = zs.length by intro k; rw [giveK_len1, hP]; exact floor_len _ _ _)
        have HL2 := Lib.hid (show ∀ k : Nat, (giveK k P).2.length = zs.length by intro k; rw [giveK_len2, hP]; exact rest_len _ _ _)
        have HV := Lib.hid (show (giveK (leftD u zs).toNat P).1 = divV u zs by rw [hP]; rfl)
        have HS := Lib.hid (show DivSt w wr (w.heap.size + 1) w.heap.size (giveK 0 P).1 (giveK 0 P).2 by rw [hP]; exact hst2)
        clear hst hst2 hke hl0 s0 s1 hP
        obtain ⟨L, hL⟩ : ∃ L, leftD u zs = L := ⟨_, rfl⟩
        rw [hL] at z0 z1 HV ⊢
        clear hL
        go_wp2_with fail
        clear hc hr hz hk
        obtain ⟨wo, rfl⟩ : ∃ wo : World, wo = wr := ⟨_, rfl⟩
        go_loopw [8] (fun l wr => ∃ (j : Nat), l = .int .i64 (L - j) ∧ j ≤ L.toNat ∧ Hid (DivSt w wr (w.heap.size + 1) w.heap.size (giveK j P).1 (giveK j P).2)) (fun l _ => (intOf l).toNat)
        case atStart => exact ⟨0, by simp, Nat.zero_le _, HS⟩
        case round =>
          clear HS
          obtain ⟨j, rfl, hj, hs⟩ := hrel
          by_cases hlt : 0 < L - j
          · obtain ⟨m, hm⟩ : ∃ m, m = amaxL (giveK j P).2 := ⟨_, rfl⟩
            have hmn : m < zs.length := by have := amaxL_lt (r := (giveK j P).2) (by rw [HL2.out]; omega); rw [HL2.out] at this; omega
            obtain ⟨x, hx⟩ : ∃ x, x = (giveK j P).1.getD m 0 := ⟨_, rfl⟩
            obtain ⟨y, hy⟩ : ∃ y, y = (giveK j P).2.getD m 0 := ⟨_, rfl⟩
            have hgx : (giveK j P).1[m]? = some x := by rw [hx]; exact get_getD (by rw [HL1.out]; exact hmn)
            have hgy : (giveK j P).2[m]? = some y := by rw [hy]; exact get_getD (by rw [HL2.out]; exact hmn)
            obtain ⟨x0, x1⟩ := HB.out j x (List.mem_of_getElem? hgx)
            have hjb : (j : Int) ≤ 100000000000 := by omega
            obtain ⟨c1, f1⟩ := hs.out.cells1 hgx
            obtain ⟨c2, f2⟩ := hs.out.cells2 hgy
            have M1 := Lib.hid (show (giveK j P).2.getD (amaxL (giveK j P).2) 0 = y by rw [← hm]; exact hy.symm)
            have M2 := Lib.hid (show (giveK j P).2.getD m 0 = y from hy.symm)
            have M3 := Lib.hid (show ∀ i, i < m → (giveK j P).2.getD i 0 ≠ y by
              intro i hi
              rw [hy, hm]
              rw [hm] at hi
              exact Int.ne_of_lt (amaxTo_gt _ _ i hi))
            have DS := Lib.hid ((hs.out.set1 (j := m) (by rw [HL1.out]; exact hmn) (x + 1)).set2 (j := m) (by rw [HL2.out]; exact hmn) (-1))
            have DE := Lib.hid (show giveK (j + 1) P = ((giveK j P).1.set m (x + 1), (giveK j P).2.set m (-1)) by rw [hx, hm]; rfl)
            have hr2 := Lib.hid hs.out.r.ri
            clear hm hx hy hgx hgy hs
            have b1 : (m : Int) < (zs.length : Int) := by omega
            have b2 : (0 : Int) ≤ (m : Int) := by omega
            go_wp2_with (first
              | (go_at_call 152; refine (slices_Max_v _ _ _ _ y _ (HL2.out j) h1 hm' hr2.out M1).mono ?_; rintro e w' ⟨rfl, rfl⟩)
              | (go_at_call 151; refine (slices_Index_c _ _ _ _ y m _ (HL2.out j) hm' hr2.out hmn M2 M3).mono ?_; rintro e w' ⟨rfl, rfl⟩))
            go_roundw
            case rel =>
              refine ⟨j + 1, by go_num, by omega, Lib.hid ?_⟩
              rw [DE.out]
              exact DS.out
            case measure => simp [intOf]; omega
          · have hje : j = L.toNat := by omega
            have hs2 := hs.out.s
            rw [hje, HV.out] at hs2
            have hlt := OI.lt hs2 (by rw [divV_len]; omega)
            have HO := Lib.hid (hs2.widen (lo' := w.heap.size) (hi' := wr.heap.size) hs.out.l1 (by omega))
            have HBl := Lib.hid hs.out.below
            clear hje hs2 hs hlt
            go_wp2_with fail
            go_ret
            exact ⟨_, rfl, HO.out, HBl.out⟩
end Go.Proofs.Ythpgkngkmmameaa
namespace Go.Proofs.Ythpgkngkmmameaa
open Go.RowKit
attribute [local go_sem ↓] Go.wp_at_zero Go.wp_at_succ
set_option linter.unusedVariables false
def subO (a b : Option (Int × Int)) : Option (Int × Int) := a.bind fun x => b.bind fun y => ratQ (x.1 * y.2 - y.1 * x.2) (x.2 * y.2)
def cvQ (S P : List Int) (k : Nat) : Option (Int × Int) := subO (mulO (ratQ (S.getD k 0) (sumL S)) (some (sumL P, 1))) (icm P S k)
def cvN (S P : List Int) (i : Int) : Int := if eqB S P i = 0 then icN (cvQ S P i.toNat) else 0
def cvD (S P : List Int) (i : Int) : Int := if eqB S P i = 0 then icD (cvQ S P i.toNat) else 0
def cvE (S P : List Int) (i : Int) : Int := if eqB S P i = 0 then icE (cvQ S P i.toNat) else eqB S P i
theorem cv_join {R F : Option (Int × Int)} {n1 d1 n2 d2 n3 d3 p m : Int} (h1 : ∀ x, R = some x → x = (n1, d1) ∧ isR n1 d1 = true) (h2 : ∀ x, (R.bind fun _ => ratQ (n1 * p) (d1 * 1)) = some x → x = (n2, d2) ∧ isR n2 d2 = true)
    (h3 : ∀ x, ((R.bind fun _ => ratQ (n1 * p) (d1 * 1)).bind fun _ => F) = some x → x = (n3, d3) ∧ isR n3 d3 = true) (hm : isR n3 d3 = true → m = -n3) :
    (((R.bind fun _ => ratQ (n1 * p) (d1 * 1)).bind fun _ => F).bind fun _ => ratQ (n2 * d3 + m * d2) (d2 * d3)) = subO (mulO R (some (p, 1))) F := by
  cases R with
  | none => rfl
  | some r =>
    obtain ⟨rfl, -⟩ := h1 _ rfl
    show (((ratQ (n1 * p) (d1 * 1)).bind fun _ => F).bind fun _ => ratQ (n2 * d3 + m * d2) (d2 * d3)) = subO (ratQ (n1 * p) (d1 * 1)) F
    have h2' : ∀ x, ratQ (n1 * p) (d1 * 1) = some x → x = (n2, d2) ∧ isR n2 d2 = true := h2
    have h3' : ∀ x, ((ratQ (n1 * p) (d1 * 1)).bind fun _ => F) = some x → x = (n3, d3) ∧ isR n3 d3 = true := h3
    clear h2 h3
    cases hq : ratQ (n1 * p) (d1 * 1) with
    | none => rfl
    | some x =>
      obtain ⟨rfl, -⟩ := h2' x hq
      rw [hq] at h3'
      cases F with
      | none => rfl
      | some f =>
        obtain ⟨rfl, hr⟩ := h3' _ rfl
        rw [hm hr]
        show ratQ (n2 * d3 + -n3 * d2) (d2 * d3) = ratQ (n2 * d3 - n3 * d2) (d2 * d3)
        rw [Int.neg_mul]
        rfl
theorem IcOk.psum {S P : List Int} {i : Nat} (h : IcOk S P i) : 0 ≤ sumL P ∧ sumL P ≤ 500000 := by
  have h1 := (sumL_bound (zs := P) (B := 100000) (by omega) (fun x hx => by have := h.p x hx; omega) P.length).2
  rw [List.take_length] at h1
  have h2 := h.l2
  have h3 := h.n
  have h4 : 0 ≤ sumL P := by
    have pos : ∀ l : List Int, (∀ x ∈ l, 0 ≤ x) → 0 ≤ sumL l := by
      intro l
      induction l with
      | nil => intro _; simp [sumL]
      | cons x l ih =>
        intro hx
        have e : sumL (x :: l) = sumL [x] + sumL l := sumL_app [x] l
        have e1 : sumL [x] = x := by simp [sumL]
        have := ih (fun y hy => hx y (by simp [hy]))
        have := hx x (by simp)
        omega
    exact pos P (fun x hx => (h.p x hx).1)
  exact ⟨h4, by omega⟩
theorem IcOk.bigS {S P : List Int} {i : Nat} (h : IcOk S P i) : Hid (∀ x ∈ S, -4000000000 ≤ x ∧ x ≤ 4000000000) := Lib.hid (fun x hx => by have := h.s x hx; omega)
theorem IcOk.bigP {S P : List Int} {i : Nat} (h : IcOk S P i) : Hid (∀ x ∈ P, -4000000000 ≤ x ∧ x ≤ 4000000000) := Lib.hid (fun x hx => by have := h.p x hx; omega)
theorem ic_red (n d : Int) : icN (ratQ n d) = redN n d ∧ icD (ratQ n d) = redD n d ∧ icE (ratQ n d) = redE n d := by
  rcases red_cases n d with ⟨he, hq⟩ | ⟨he, hN, hD, hq⟩
  · rw [hq, he]; exact ⟨rfl, rfl, rfl⟩
  · rw [hq, he, hN, hD]; exact ⟨rfl, rfl, rfl⟩
theorem cv_none {S P : List Int} {i : Int} {k : Nat} (h0 : eqB S P i = 0) (hk : i.toNat = k) (h : cvQ S P k = none) : 0 = cvN S P i ∧ 0 = cvD S P i ∧ 3 = cvE S P i := by
  unfold cvN cvD cvE
  rw [if_pos h0, if_pos h0, if_pos h0, hk, h]
  exact ⟨rfl, rfl, rfl⟩
end Go.Proofs.Ythpgkngkmmameaa
namespace Go.Proofs.Ythpgkngkmmameaa
open Go.RowKit
set_option linter.unusedVariables false
def flQ (qs : List (Int × Int)) : List Int := qs.map fun q => q.1 / q.2
def rsQ (qs : List (Int × Int)) : List (Int × Int) := qs.map fun q => (q.1 % q.2, q.2)
/-- The first of the greatest ones. -/
def maxQ (rs : List (Int × Int)) : Nat → Nat
  | 0 => 0
  | k + 1 => if 0 < cmpI ((getQ rs k).1 * (getQ rs (maxQ rs k)).2) ((getQ rs (maxQ rs k)).1 * (getQ rs k).2) then k else maxQ rs k
theorem maxQ_lt (ds : List (Int × Int)) {k n : Nat} (h : k ≤ n) (hn : 0 < n) : maxQ ds k < n := by
  induction k with
  | zero => exact hn
  | succ k ih => unfold maxQ; split; omega; exact ih (by omega)
theorem maxQ_one (ds : List (Int × Int)) : maxQ ds 1 = 0 := by
  unfold maxQ
  split <;> rfl
def giveQ : Nat → List Int × List (Int × Int) → List Int × List (Int × Int)
  | 0, s => s
  | k + 1, s => ((giveQ k s).1.set (maxQ (giveQ k s).2 (giveQ k s).2.length) ((giveQ k s).1.getD (maxQ (giveQ k s).2 (giveQ k s).2.length) 0 + 1), (giveQ k s).2.set (maxQ (giveQ k s).2 (giveQ k s).2.length) (-1, 1))
theorem giveQ_len (k : Nat) (s : List Int × List (Int × Int)) : (giveQ k s).1.length = s.1.length ∧ (giveQ k s).2.length = s.2.length := by
  induction k with
  | zero => exact ⟨rfl, rfl⟩
  | succ k ih => simp only [giveQ, List.length_set]; exact ih
theorem giveQ_step {k b : Nat} {s : List Int × List (Int × Int)} {x : Int} (hb : maxQ (giveQ k s).2 s.2.length = b) (hx : (giveQ k s).1[b]? = some x) : giveQ (k + 1) s = ((giveQ k s).1.set b (x + 1), (giveQ k s).2.set b (-1, 1)) := by
  rw [← (giveQ_len k s).2] at hb
  simp only [giveQ, hb]
  rw [show (giveQ k s).1.getD b 0 = x by simp [List.getD, hx]]
theorem giveQ_sm {s : List Int × List (Int × Int)} (h : ∀ q ∈ s.2, Sm q.1 q.2) (k : Nat) : ∀ q ∈ (giveQ k s).2, Sm q.1 q.2 := by
  induction k with
  | zero => exact h
  | succ k ih =>
    intro q hq
    simp only [giveQ] at hq
    rcases List.mem_or_eq_of_mem_set hq with hq | rfl
    · exact ih q hq
    · exact ⟨by decide, by decide, by decide, by decide⟩
theorem giveQ_bd {s : List Int × List (Int × Int)} {B : Int} (h0 : 0 ≤ B) (h : ∀ x ∈ s.1, 0 ≤ x ∧ x ≤ B) (k : Nat) : ∀ x ∈ (giveQ k s).1, 0 ≤ x ∧ x ≤ B + k := by
  induction k with
  | zero => intro x hx; have := h x hx; omega
  | succ k ih =>
    intro x hx
    simp only [giveQ] at hx
    rcases List.mem_or_eq_of_mem_set hx with hx | rfl
    · have := ih x hx; omega
    · by_cases hl : maxQ (giveQ k s).2 (giveQ k s).2.length < (giveQ k s).1.length
      · have := ih _ (getD_mem hl); omega
      · rw [show (giveQ k s).1.getD (maxQ (giveQ k s).2 (giveQ k s).2.length) 0 = 0 by simp [List.getD, hl]]; omega
theorem flQ_bd {qs : List (Int × Int)} (h : ∀ q ∈ qs, 0 ≤ q.1 ∧ Sm q.1 q.2) : ∀ x ∈ flQ qs, 0 ≤ x ∧ x ≤ 1000000000 := by
  intro x hx
  obtain ⟨q, hq, rfl⟩ := List.mem_map.1 hx
  obtain ⟨h0, h1⟩ := h q hq
  have := h1.d0
  have := h1.n1
  have a := Int.ediv_nonneg h0 (show 0 ≤ q.2 by omega)
  have b : q.1 / q.2 ≤ q.1 := Int.ediv_le_self _ h0
  omega
theorem rsQ_sm {qs : List (Int × Int)} (h : ∀ q ∈ qs, 0 ≤ q.1 ∧ Sm q.1 q.2) : ∀ q ∈ rsQ qs, Sm q.1 q.2 := by
  intro x hx
  obtain ⟨q, hq, rfl⟩ := List.mem_map.1 hx
  obtain ⟨h0, h1⟩ := h q hq
  have := h1.d0
  have := h1.d1
  have a := Int.emod_nonneg q.1 (show q.2 ≠ 0 by omega)
  have b := Int.emod_lt_of_pos q.1 (show 0 < q.2 by omega)
  exact ⟨by show -1000000000 ≤ q.1 % q.2; omega, by show q.1 % q.2 ≤ 1000000000; omega, h1.d0, h1.d1⟩
def mcL (S P : List Int) : Int := sumL P - sumL (flQ (feL S P))
def mcV (S P : List Int) : List Int := if feE S P = 0 then (giveQ (mcL S P).toNat (flQ (feL S P), rsQ (feL S P))).1 else []
/-- What the equities bear. -/
structure ChOk (S P : List Int) (es : List (Int × Int)) : Prop where
  len : es.length = S.length
  n1 : 2 ≤ S.length
  n2 : S.length ≤ 5
  q : ∀ q ∈ es, 0 ≤ q.1 ∧ Sm q.1 q.2
  e : feL S P = es
  sp : 0 ≤ sumL P ∧ sumL P ≤ 500000
  bp : Hid (∀ x ∈ P, -4000000000 ≤ x ∧ x ≤ 4000000000)
  pr : prizesB S P = true
  fk : feK S P S.length = some es
theorem ch_ok {S P : List Int} (hE : feE S P = 0) : ∃ es, ChOk S P es := by
  have h1 : prizesB S P = true := by
    by_cases h : prizesB S P = true
    · exact h
    · exfalso; unfold feE at hE; rw [if_neg h] at hE; exact absurd hE (by decide)
  obtain ⟨es, hk, hl⟩ := feE_zero h1 hE
  obtain ⟨f1, f2, f3⟩ := fieldB_iff.1 (prizesB_iff.1 h1).1
  have hok := prizes_ok (i := 0) h1 (by omega)
  obtain ⟨p0, p1⟩ := hok.psum
  have hg := feK_good h1 (Nat.le_refl _) hk
  refine ⟨es, feK_len hk, f1, f2, fun q hq => ?_, hl, ⟨by omega, by omega⟩, hok.bigP, h1, hk⟩
  obtain ⟨j, hj, rfl⟩ := List.getElem_of_mem hq
  have := hg j (by rw [← feK_len hk]; exact hj)
  rw [getQ_some (show es[j]? = some es[j] from List.getElem?_eq_getElem hj)] at this
  exact ⟨this.1, Sm.of this.2⟩
/-- Two rows of the call's own: numbers and ratios. -/
structure ChSt (w wr : World) (g1 g2 : Nat) (ss : List Int) (rs : List (Int × Int)) : Prop where
  ne : g1 ≠ g2
  s : OI wr g1 (g1 + 1) (some ⟨g1, 0, none⟩) ss
  r : OQ wr g2 (g2 + 1) (some ⟨g2, 0, none⟩) rs
  below : Below w.heap.size w wr
  l1 : w.heap.size ≤ g1
  l2 : w.heap.size ≤ g2
  z1 : g1 < wr.heap.size
  z2 : g2 < wr.heap.size
theorem ChSt.set1 {w wr : World} {g1 g2 : Nat} {ss : List Int} {rs : List (Int × Int)} (h : ChSt w wr g1 g2 ss rs) {j : Nat} (hj : j < ss.length) (x : Int) : ChSt w (wr.setCell ⟨g1, j, none⟩ (.int .i64 x)) g1 g2 (ss.set j x) rs := by
  have h1 := h.s.set hj x
  rw [Nat.zero_add] at h1
  have hne := h.ne
  exact ⟨h.ne, h1, h.r.kept (Kept.at_ g1 j _ rfl) (by omega), h.below.setCell h.l1 _, h.l1, h.l2, by simpa [World.setCell] using h.z1, by simpa [World.setCell] using h.z2⟩
theorem ChSt.set2 {w wr : World} {g1 g2 : Nat} {ss : List Int} {rs : List (Int × Int)} (h : ChSt w wr g1 g2 ss rs) {j : Nat} (hj : j < rs.length) (x y : Int) : ChSt w ((wr.setCell ⟨g2, j * 2, none⟩ (.int .i64 x)).setCell ⟨g2, j * 2 + 1, none⟩ (.int .i64 y)) g1 g2 ss (rs.set j (x, y)) := by
  have h1 := h.r.set hj x y
  have hne := h.ne
  exact ⟨h.ne, (h.s.kept (Kept.at_ g2 (j * 2) _ rfl) (by omega)).kept (Kept.at_ g2 (j * 2 + 1) _ rfl) (by omega), h1, (h.below.setCell h.l2 _).setCell h.l2 _, h.l1, h.l2, by simpa [World.setCell] using h.z1, by simpa [World.setCell] using h.z2⟩
theorem ChSt.step {w wr w' : World} {g1 g2 : Nat} {ss : List Int} {rs : List (Int × Int)} (h : ChSt w wr g1 g2 ss rs) (hb : Below wr.heap.size wr w') : ChSt w w' g1 g2 ss rs :=
  ⟨h.ne, h.s.below hb, h.r.below hb, below_step h.below hb h.below.size, h.l1, h.l2, Nat.lt_of_lt_of_le h.z1 hb.size, Nat.lt_of_lt_of_le h.z2 hb.size⟩
theorem ChSt.drew {w wr : World} {g1 g2 : Nat} {ss : List Int} {rs : List (Int × Int)} (h : ChSt w wr g1 g2 ss rs) : ChSt w wr.drew g1 g2 ss rs := ⟨h.ne, h.s, h.r, h.below.drew, h.l1, h.l2, h.z1, h.z2⟩
theorem ChSt.cells1 {w wr : World} {g1 g2 : Nat} {ss : List Int} {rs : List (Int × Int)} (h : ChSt w wr g1 g2 ss rs) {j : Nat} {x : Int} (hx : ss[j]? = some x) : wr.cell? ⟨g1, j, none⟩ = some (.int .i64 x) ∧ wr.frozen? ⟨g1, j, none⟩ = false := by have := h.s.cellX hx; rwa [Nat.zero_add] at this
theorem ChSt.cells2 {w wr : World} {g1 g2 : Nat} {ss : List Int} {rs : List (Int × Int)} (h : ChSt w wr g1 g2 ss rs) {j : Nat} {x y : Int} (hx : rs[j]? = some (x, y)) : wr.cell? ⟨g2, j * 2, none⟩ = some (.int .i64 x) ∧ wr.cell? ⟨g2, j * 2 + 1, none⟩ = some (.int .i64 y) ∧ wr.frozen? ⟨g2, j * 2, none⟩ = false ∧ wr.frozen? ⟨g2, j * 2 + 1, none⟩ = false := h.r.at_ hx
theorem flat_rep : ∀ n : Nat, (List.replicate n ((0 : Int), (0 : Int))).flatMap (fun q => [Value.int .i64 q.1, Value.int .i64 q.2]) = List.replicate (n * 2) (.int .i64 0)
  | 0 => rfl
  | n + 1 => by
    rw [List.replicate_succ, List.flatMap_cons, flat_rep n, show (n + 1) * 2 = n * 2 + 1 + 1 by omega, List.replicate_succ, List.replicate_succ]
    rfl
theorem made_two (n : Nat) : (madeCells #[Value.int .i64 0, .int .i64 0] (n * 2)).toList = (List.replicate n ((0 : Int), (0 : Int))).flatMap fun q => [Value.int .i64 q.1, Value.int .i64 q.2] := by
  rw [flat_rep]
  apply List.ext_getElem
  · simp [madeCells]
  · intro i h1 h2
    simp only [madeCells, Array.toList_map, List.getElem_map, List.getElem_replicate]
    have : ∀ k : Nat, k < 2 → (#[Value.int .i64 0, .int .i64 0] : Array Value)[k]! = .int .i64 0 := by
      intro k hk
      match k, hk with
      | 0, _ => rfl
      | 1, _ => rfl
    exact this _ (Nat.mod_lt _ (by simp))
theorem OQ.exact {w : World} {lo hi g : Nat} {qs : List (Int × Int)} (h : OQ w lo hi (some ⟨g, 0, none⟩) qs) : OQ w g (g + 1) (some ⟨g, 0, none⟩) qs := by
  rcases h with h | ⟨b, e, l1, l2, h2, h3, h4⟩
  · exact .inl h
  · injection e with e; injection e with e1 e2; subst e1
    exact .inr ⟨g, rfl, Nat.le_refl _, Nat.lt_succ_self _, h2, h3, h4⟩
theorem ChSt.make {w w2 w3 : World} {n : Nat}
    (h1 : w2.ownsRow w.heap.size 2 1 (.slice (some ⟨w.heap.size, 0, none⟩) n n) n (madeCells (Value.int .i64 0).cells (n * 1)).toList) (k1 : w.grownBy w2 none)
    (h2 : w3.ownsRow w2.heap.size 48 2 (.slice (some ⟨w2.heap.size, 0, none⟩) n n) n (madeCells (Value.agg #[.int .i64 0, .int .i64 0]).cells (n * 2)).toList) (k2 : w2.grownBy w3 none) :
    ChSt w w3 w.heap.size w2.heap.size (List.replicate n 0) (List.replicate n (0, 0)) := by
  rw [Nat.mul_one, show (Value.int IntKind.i64 0).cells = #[Value.int IntKind.i64 0] from rfl, toList_madeCells_one, show List.replicate n (Value.int IntKind.i64 0) = (List.replicate n (0 : Int)).map (.int .i64) from by simp] at h1
  rw [show (Value.agg #[.int .i64 0, .int .i64 0]).cells = #[Value.int .i64 0, .int .i64 0] from rfl, made_two] at h2
  have b1 : Below w.heap.size w w2 := (Below.refl _ _).grown k1 (Nat.le_refl _) (by simp)
  have b2 : Below w2.heap.size w2 w3 := (Below.refl _ _).grown k2 (Nat.le_refl _) (by simp)
  have l1 : w.heap.size < w2.heap.size := (World.ownsRow.lt h1 _ rfl).2
  have l2 : w2.heap.size < w3.heap.size := (World.ownsRow.lt h2 _ rfl).2
  have o2 : RowQ w3 w2.heap.size (some ⟨w2.heap.size, 0, none⟩) n n (List.replicate n (0, 0)) := h2
  exact ⟨Nat.ne_of_lt l1, ((OI.of_row h1).below b2).exact, o2.oq.exact, below_step b1 b2 b1.size, Nat.le_refl _, b1.size, Nat.lt_of_lt_of_le l1 b2.size, l2⟩
/-- Rows that are written head first. -/
theorem zero_get {α : Type} {l : List α} {n k : Nat} {z : α} (hl : l.length = n) (hk : k < n) : (l.take k ++ List.replicate (n - k) z)[k]? = some z := by
  rw [List.getElem?_append_right (by simp; omega)]
  simp [List.getElem?_replicate]
  omega
theorem zero_set {α : Type} {l : List α} {n k : Nat} {x z : α} (hl : l.length = n) (hk : k < n) (hx : l[k]? = some x) : (l.take k ++ List.replicate (n - k) z).set k x = l.take (k + 1) ++ List.replicate (n - (k + 1)) z := by
  have h1 : (l.take k).length = k := by simp; omega
  rw [List.set_append_right _ _ (by omega), h1, Nat.sub_self, List.take_add_one, hx, show n - k = (n - (k + 1)) + 1 by omega, List.replicate_succ, List.set_cons_zero]
  simp
theorem flQ_get {qs : List (Int × Int)} {k : Nat} {x y : Int} (h : qs[k]? = some (x, y)) : (flQ qs)[k]? = some (x / y) := by simp [flQ, h]
theorem rsQ_get {qs : List (Int × Int)} {k : Nat} {x y : Int} (h : qs[k]? = some (x, y)) : (rsQ qs)[k]? = some (x % y, y) := by simp [rsQ, h]
theorem flQ_len (qs : List (Int × Int)) : (flQ qs).length = qs.length := by simp [flQ]
theorem rsQ_len (qs : List (Int × Int)) : (rsQ qs).length = qs.length := by simp [rsQ]
end Go.Proofs.Ythpgkngkmmameaa
namespace Go.Proofs.Ythpgkngkmmameaa
open Go.RowKit
set_option linter.unusedVariables false
/-- A row of numbers and a row of ratios that grow side by side. -/
structure PairQ (w wr : World) (A1 : Option Addr) (n1 c1 : Nat) (l1 : List Int) (A2 : Option Addr) (n2 c2 : Nat) (l2 : List (Int × Int)) : Prop where
  r1 : Row wr w.heap.size A1 n1 c1 l1
  r2 : RowQ wr w.heap.size A2 n2 c2 l2
  below : Below w.heap.size w wr
section
variable {w wr : World} {A1 A2 : Option Addr} {n1 c1 n2 c2 : Nat} {l1 : List Int} {l2 : List (Int × Int)}
theorem PairQ.ne (h : PairQ w wr A1 n1 c1 l1 A2 n2 c2 l2) {g : Nat} (h1 : (Value.slice A1 n1 c1).ownBlock = some g) (h2 : (Value.slice A2 n2 c2).ownBlock = some g) : False := by
  rcases h.r1.2 with ⟨hv, _⟩ | ⟨g1, cap, cur, hv, _, hg, _⟩
  · rw [hv] at h1; simp [Value.ownBlock] at h1
  · rcases h.r2.2 with ⟨hv2, _⟩ | ⟨g2, cap2, cur2, hv2, _, hg2, _⟩
    · rw [hv2] at h2; simp [Value.ownBlock] at h2
    · rw [hv] at h1
      rw [hv2] at h2
      have e1 : g1 = g := by simpa [Value.ownBlock] using h1
      have e2 : g2 = g := by simpa [Value.ownBlock] using h2
      subst e1
      subst e2
      rw [hg] at hg2
      simp at hg2
theorem PairQ.alloc (h : PairQ w wr A1 n1 c1 l1 A2 n2 c2 l2) (o : Obj) : PairQ w (wr.alloc o) A1 n1 c1 l1 A2 n2 c2 l2 := ⟨h.r1.alloc o, h.r2.alloc o, h.below.alloc h.below.size o⟩
theorem PairQ.drew (h : PairQ w wr A1 n1 c1 l1 A2 n2 c2 l2) : PairQ w wr.drew A1 n1 c1 l1 A2 n2 c2 l2 := ⟨h.r1, h.r2, h.below.drew⟩
theorem step_pairA {ops : Array Oper} {o : Oper} {a : Act} {K : Act → World → Prop} {Q : Exit → Act → World → Prop} {E : Prop} (hgd : o.guard = none) (s x : Operand)
    (ho : o.op = .call { callee := .builtin .append, args := #[s, x], argTypes := #[22, 22] })
    (hp : PairQ w wr A1 n1 c1 l1 A2 n2 c2 l2) (hs : a.eval s = .slice A1 n1 c1)
    (g cx : Nat) (y : Int) (hx : a.eval x = .slice (some ⟨g, 0, none⟩) 1 cx) (hy : wr.cell? ⟨g, 0, none⟩ = some (.int .i64 y)) (hlen : n1 ≤ 10000000)
    (h : ∀ (g' c' : Nat) (w' : World), PairQ w w' (some ⟨g', 0, none⟩) (n1 + 1) c' (l1 ++ [y]) A2 n2 c2 l2 → K (a.put o.dst (.slice (some ⟨g', 0, none⟩) (n1 + 1) c')) w') :
    if Region.wanted o (yielded ops a.tmps) = true then Oper.wp Try.prog o a wr K Q else E := by
  have hw : Region.wanted o (yielded ops a.tmps) = true := by simp [Region.wanted, hgd]
  rw [if_pos hw]
  obtain ⟨i0, hi, hz0, hz1, hz2⟩ := info_parts info_int
  have hbase := hp.below.size
  refine wp_append_own (P := Try.prog) wr s x 22 ho w.heap.size 2 i0 (.int .i64 0) 1 8 Try.underlying22 hi hz0 hz1 hz2 rfl (by decide) (.slice A1 n1 c1) n1 _ hs hp.r1 ⟨g, 0, none⟩ 1 cx [.int .i64 y] hx rfl ?_ ?_ (by unfold maxLen; omega) (by omega) hbase ?_
  · intro j u hu
    cases j with
    | zero => simp at hu; subst hu; rw [Addr.add_lit]; exact hy
    | succ j => simp at hu
  · intro u hu
    simp at hu
    subst hu
    rfl
  · intro v' w' hown' hg _
    obtain ⟨g', c', rfl⟩ : ∃ g' c', v' = .slice (some ⟨g', 0, none⟩) (n1 + 1) c' := by
      rcases hown'.2 with ⟨_, h0⟩ | ⟨g', c', cur, hv, _⟩
      · omega
      · exact ⟨g', c', hv⟩
    refine h g' c' w' ⟨?_, ?_, ?_⟩
    · unfold Row
      simpa using hown'
    · refine World.ownsRow.kept hp.r2 hg ?_
      cases hb : (Value.slice A2 n2 c2).ownBlock with
      | none => exact .inl rfl
      | some k => exact .inr (fun e => hp.ne e.symm hb)
    · refine hp.below.grown hg hbase (fun k hk => ?_)
      exact (World.ownsRow.lt hp.r1 k hk).1
theorem step_pairB {ops : Array Oper} {o : Oper} {a : Act} {K : Act → World → Prop} {Q : Exit → Act → World → Prop} {E : Prop} (hgd : o.guard = none) (s x : Operand)
    (ho : o.op = .call { callee := .builtin .append, args := #[s, x], argTypes := #[91, 91] })
    (hp : PairQ w wr A1 n1 c1 l1 A2 n2 c2 l2) (hs : a.eval s = .slice A2 n2 c2)
    (g cx : Nat) (y z : Int) (hx : a.eval x = .slice (some ⟨g, 0, none⟩) 1 cx) (hy : wr.cell? ⟨g, 0, none⟩ = some (.int .i64 y)) (hz : wr.cell? ⟨g, 1, none⟩ = some (.int .i64 z)) (hlen : n2 ≤ 1000000)
    (h : ∀ (g' c' : Nat) (w' : World), PairQ w w' A1 n1 c1 l1 (some ⟨g', 0, none⟩) (n2 + 1) c' (l2 ++ [(y, z)]) → K (a.put o.dst (.slice (some ⟨g', 0, none⟩) (n2 + 1) c')) w') :
    if Region.wanted o (yielded ops a.tmps) = true then Oper.wp Try.prog o a wr K Q else E := by
  have hw : Region.wanted o (yielded ops a.tmps) = true := by simp [Region.wanted, hgd]
  rw [if_pos hw]
  obtain ⟨i0, hi, hz0, hz1, hz2⟩ := info_parts info_ratio
  have hbase := hp.below.size
  refine wp_append_own (P := Try.prog) wr s x 91 ho w.heap.size 48 i0 (.agg #[.int .i64 0, .int .i64 0]) 2 16 Try.underlying91 hi hz0 hz1 hz2 rfl (by decide) (.slice A2 n2 c2) n2 _ hs hp.r2 ⟨g, 0, none⟩ 1 cx [.int .i64 y, .int .i64 z] hx rfl ?_ ?_ (by unfold maxLen; omega) (by omega) hbase ?_
  · intro j u hu
    match j with
    | 0 => simp at hu; subst hu; rw [Addr.add_lit]; exact hy
    | 1 => simp at hu; subst hu; rw [Addr.add_lit]; exact hz
    | j + 2 => simp at hu
  · intro u hu
    simp at hu
    rcases hu with rfl | rfl <;> rfl
  · intro v' w' hown' hg _
    obtain ⟨g', c', rfl⟩ : ∃ g' c', v' = .slice (some ⟨g', 0, none⟩) (n2 + 1) c' := by
      rcases hown'.2 with ⟨_, h0⟩ | ⟨g', c', cur, hv, _⟩
      · omega
      · exact ⟨g', c', hv⟩
    refine h g' c' w' ⟨?_, ?_, ?_⟩
    · refine World.ownsRow.kept hp.r1 hg ?_
      cases hb : (Value.slice A1 n1 c1).ownBlock with
      | none => exact .inl rfl
      | some k => exact .inr (fun e => hp.ne hb e.symm)
    · unfold RowQ
      rw [List.flatMap_append]
      simpa using hown'
    · refine hp.below.grown hg hbase (fun k hk => ?_)
      exact (World.ownsRow.lt hp.r2 k hk).1
theorem PairQ.new (w : World) : PairQ w ((w.alloc (.cells #[] 2)).alloc (.cells #[] 48)) (some ⟨w.heap.size, 0, none⟩) 0 0 [] (some ⟨w.heap.size + 1, 0, none⟩) 0 0 [] := by
  have h1 := (Row.empty w (Nat.le_refl w.heap.size)).alloc (.cells #[] 48)
  have h2 := RowQ.empty (w.alloc (.cells #[] 2)) (base := w.heap.size) (by simp)
  rw [show (w.alloc (.cells #[] 2)).heap.size = w.heap.size + 1 by simp] at h2
  exact ⟨h1, h2, (((Below.refl _ _).alloc (Nat.le_refl _) _).alloc (by simp) _)⟩
theorem PairQ.st {g1 g2 : Nat} (h : PairQ w wr (some ⟨g1, 0, none⟩) n1 c1 l1 (some ⟨g2, 0, none⟩) n2 c2 l2) (h1 : 0 < n1) (h2 : 0 < n2) : ChSt w wr g1 g2 l1 l2 := by
  have e1 := h.r1.oi
  have e2 := h.r2.oq
  have a := OI.lt e1 (by rw [h.r1.length]; exact h1)
  have b := OQ.lt e2 (by rw [h.r2.length]; exact h2)
  exact ⟨fun e => h.ne (g := g1) rfl (by rw [e]; rfl), e1.exact, e2.exact, h.below, a.1, b.1, a.2.1, b.2.1⟩
end
set_option maxRecDepth 100000 in
set_option maxHeartbeats 8000000 in
theorem spec_ModelChop_c (A : Option Addr) (n c : Nat) (S : List Int) (B : Option Addr) (m d : Nat) (P : List Int) (w : World) (hn : S.length = n) (hm : n ≤ 1048576) (hr : RI w A S) (hn' : P.length = m) (hm' : m ≤ 1048576) (hr' : RI w B P) (hmd : m ≤ d) :
    Calls Try.prog 13 #[.slice A n c, .slice B m d] w (LR w (mcV S P) (feE S P)) := by
  have HN := Lib.hid hn
  have HN' := Lib.hid hn'
  clear hn hn'
  by_cases hE : feE S P = 0
  · obtain ⟨es, hok⟩ := ch_ok hE
    have n2 := hok.n1
    have n5 := hok.n2
    have sp := hok.sp
    have HE := Lib.hid hE
    have HL := Lib.hid hok.e
    have HLen := Lib.hid (show es.length = n by rw [hok.len]; exact HN.out)
    rw [HN.out] at n2 n5
    have HV := Lib.hid (show mcV S P = (giveQ (sumL P - sumL (flQ es)).toNat (flQ es, rsQ es)).1 by unfold mcV mcL; rw [if_pos HE.out, HL.out])
    have HF := Lib.hid (flQ_bd hok.q)
    have HR := Lib.hid (rsQ_sm hok.q)
    have HQ := Lib.hid hok.q
    have HBP := hok.bp
    clear hE hok
    go_enter Try.func13, Try.ntmps13
    go_wp2_with fail
    refine (spec_FieldEquities_c A n c S B m d P _ HN.out hm hr HN'.out hm' hr' hmd).mono ?_
    rintro e w1 ⟨G, g1, c1, rfl, hl1, hm1, ho1, b1⟩
    rw [HE.out]
    rw [HL.out] at hl1 ho1
    obtain rfl : g1 = n := by have := hl1.out; have := HLen.out; omega
    have B1 := Lib.hid b1
    have HRP := Lib.hid (hr'.below b1)
    rcases ho1.ri.split with hz | ⟨ge, rfl, hge, hce⟩
    · exfalso; have := HLen.out; omega
    clear b1 ho1 hl1 hr'
    go_wp2_with fail
    have PQ := Lib.hid (PairQ.new w1)
    obtain ⟨L, hL⟩ : ∃ L, sumL P - sumL (flQ es) = L := ⟨_, rfl⟩
    rw [hL] at HV
    go_loopw [8, 9, 10] (fun s t i wr => ∃ (k c2 c3 : Nat) (A1 A2 : Option Addr), s = .slice A1 k c2 ∧ t = .slice A2 k c3 ∧ i = .int .i64 k ∧ k ≤ g1 ∧ Hid (PairQ w1 wr A1 k c2 ((flQ es).take k) A2 k c3 ((rsQ es).take k)) ∧ Hid (0 < k → ∃ h1 h2, A1 = some ⟨h1, 0, none⟩ ∧ A2 = some ⟨h2, 0, none⟩)) (fun _ _ i _ => g1 - (intOf i).toNat)
    case atStart => exact ⟨0, _, _, _, _, rfl, rfl, rfl, Nat.zero_le _, PQ, Lib.hid (fun h => absurd h (Nat.lt_irrefl _))⟩
    case round =>
      clear PQ
      obtain ⟨k, c2, c3, A1, A2, rfl, rfl, rfl, hk, hpq, haa⟩ := hrel
      by_cases hlt : k < g1
      · obtain ⟨x, y, hxy⟩ := get_q (qs := es) (k := k) (by rw [HLen.out]; exact hlt)
        obtain ⟨x0, hsm⟩ := HQ.out (x, y) (List.mem_of_getElem? hxy)
        have x1 : x ≤ 1000000000 := hsm.n1
        have y0 : 1 ≤ y := hsm.d0
        have y1 : y ≤ 1000000000 := hsm.d1
        have x0' : 0 ≤ x := x0
        have e1 : x.tdiv y = x / y := Int.tdiv_eq_ediv_of_nonneg x0'
        have e2 : x.tmod y = x % y := Int.tmod_eq_emod_of_nonneg x0'
        have e3 : ¬ y = 0 := by omega
        have q0 : 0 ≤ x / y := Int.ediv_nonneg x0' (by omega)
        have q1 : x / y ≤ x := Int.ediv_le_self _ x0'
        have e4 : IntKind.i64.wrap (x / y) = x / y := IntWalk.i64_in _ (by omega)
        have z0 : 0 ≤ x % y := Int.emod_nonneg x e3
        have z1 : x % y < y := Int.emod_lt_of_pos x (by omega)
        have i1 : (k : Int) < (g1 : Int) := by omega
        have i2 : (0 : Int) ≤ (k : Int) := by omega
        obtain ⟨p0, p1⟩ := hce.out k x y hxy
        have H1 := Lib.hid (show (flQ es).take (k + 1) = (flQ es).take k ++ [x / y] by rw [List.take_add_one, flQ_get hxy]; rfl)
        have H2 := Lib.hid (show (rsQ es).take (k + 1) = (rsQ es).take k ++ [(x % y, y)] by rw [List.take_add_one, rsQ_get hxy]; rfl)
        have c0 := (hpq.out.below.cell (p := ⟨ge, k * 2, none⟩) hge).trans p0
        have c1 := (hpq.out.below.cell (p := ⟨ge, k * 2 + 1, none⟩) hge).trans p1
        have P0 := Lib.hid p0
        have P1 := Lib.hid p1
        have HE1 := Lib.hid e1
        have HE2 := Lib.hid e2
        have k5 : k ≤ 10 := by omega
        clear hxy p0 p1 hsm x0 e2 haa
        go_wp2_with fail
        go_region_law ((refine step_pairA (by rfl) _ _ (by rfl) (PairQ.alloc (PairQ.drew hpq.out) _) (by rfl) wr.heap.size 1 (x / y) (by rfl) (by simp) (by omega) ?_; intro h1 d1 w4 hp4))
        all_goals
          have HP4 := Lib.hid hp4
          have c0 := (HP4.out.below.cell (p := ⟨ge, k * 2, none⟩) hge).trans P0.out
          have c1 := (HP4.out.below.cell (p := ⟨ge, k * 2 + 1, none⟩) hge).trans P1.out
          have e2 := HE2.out
          clear hp4 e1 e4
          go_wp2_with fail
          go_region_law ((refine step_pairB (by rfl) _ _ (by rfl) (PairQ.alloc (PairQ.drew HP4.out) _) (by rfl) w4.heap.size 1 (x % y) y (by rfl) (by simp) (by simp) (by omega) ?_; intro h2 d2 w5 hp5))
          all_goals
            have HP5 := Lib.hid hp5
            clear hp5 e2 c0 c1
            go_wp2_with fail
            go_roundw
            case rel => exact ⟨k + 1, d1, d2, _, _, rfl, rfl, by go_num, by omega, Lib.hid (by rw [H1.out, H2.out]; exact HP5.out), Lib.hid (fun _ => ⟨h1, h2, rfl, rfl⟩)⟩
            case measure => simp [intOf]; omega
      · obtain rfl : k = g1 := by omega
        obtain ⟨G1, G2, rfl, rfl⟩ := haa.out (by omega)
        have C0 := hpq.out.st (by omega) (by omega)
        rw [List.take_of_length_le (by rw [flQ_len, HLen.out]; exact Nat.le_refl _), List.take_of_length_le (by rw [rsQ_len, HLen.out]; exact Nat.le_refl _)] at C0
        have RP := Lib.hid (HRP.out.below C0.below)
        obtain ⟨F, hF⟩ : ∃ F, flQ es = F := ⟨_, rfl⟩
        obtain ⟨R, hR⟩ : ∃ R, rsQ es = R := ⟨_, rfl⟩
        have LF := Lib.hid (show F.length = k by rw [← hF, flQ_len]; exact HLen.out)
        have LRR := Lib.hid (show R.length = k by rw [← hR, rsQ_len]; exact HLen.out)
        rw [hF] at C0 HF hL HV
        rw [hR] at C0 HR HV
        have HFS := Lib.hid (show ∀ x ∈ F, -4000000000 ≤ x ∧ x ≤ 4000000000 from fun x hx => by have := HF.out x hx; omega)
        have sb := sumL_bound (zs := F) (B := 1000000000) (by omega) (fun x hx => by have := HF.out x hx; omega) k
        rw [List.take_of_length_le (by rw [LF.out]; exact Nat.le_refl _)] at sb
        have sb0 : -5000000000 ≤ sumL F := by omega
        have sb1 : sumL F ≤ 5000000000 := by omega
        have HC := Lib.hid C0
        have GL := Lib.hid (fun j => giveQ_len j (F, R))
        have GS := Lib.hid (giveQ_sm (s := (F, R)) HR.out)
        have GB := Lib.hid (giveQ_bd (s := (F, R)) (B := 1000000000) (by omega) HF.out)
        clear C0 hpq haa sb hF hR HR HF
        obtain ⟨w4, rfl⟩ : ∃ w4 : World, w4 = wr := ⟨_, rfl⟩
        go_wp2_with (go_at_call 84; first
          | ((with_reducible refine (spec_l01Sum_c _ _ _ P _ HN'.out hm' RP.out HBP).mono ?_); rintro e w' ⟨rfl, rfl⟩)
          | ((with_reducible refine (spec_l01Sum_c _ _ _ F _ LF.out (by omega) HC.out.s.ri HFS).mono ?_); rintro e w' ⟨rfl, rfl⟩))
        have hl0 : -5000000000 ≤ L := by omega
        have hl1 : L ≤ 6000000000 := by omega
        clear hL sb0 sb1
        go_loopw [11] (fun l wr => ∃ j : Nat, l = .int .i64 (L - j) ∧ j ≤ L.toNat ∧ Hid (ChSt w1 wr G1 G2 (giveQ j (F, R)).1 (giveQ j (F, R)).2)) (fun l _ => (intOf l).toNat)
        case atStart => exact ⟨0, by simp, Nat.zero_le _, HC⟩
        case round =>
          clear HC
          obtain ⟨j, rfl, hj, hcs⟩ := hrel
          by_cases hlt2 : 0 < L - j
          · have dL : decide ((j : Int) < L) = true := by simp; omega
            obtain ⟨rs, hrs⟩ : ∃ rs, (giveQ j (F, R)).2 = rs := ⟨_, rfl⟩
            obtain ⟨ss, hss⟩ : ∃ ss, (giveQ j (F, R)).1 = ss := ⟨_, rfl⟩
            have LRS := Lib.hid (show rs.length = k by rw [← hrs, (GL.out j).2]; exact LRR.out)
            have LSS := Lib.hid (show ss.length = k by rw [← hss, (GL.out j).1]; exact LF.out)
            have SM := Lib.hid (show ∀ q ∈ rs, Sm q.1 q.2 by rw [← hrs]; exact GS.out j)
            have BD := Lib.hid (show ∀ x ∈ ss, 0 ≤ x ∧ x ≤ 1000000000 + (j : Int) by rw [← hss]; exact GB.out j)
            have ST := Lib.hid (show ∀ (b : Nat) (x : Int), maxQ rs k = b → ss[b]? = some x → giveQ (j + 1) (F, R) = (ss.set b (x + 1), rs.set b (-1, 1)) by
              intro b x hb hx
              rw [← hrs] at hb
              rw [← hss] at hx
              have := giveQ_step (s := (F, R)) (k := j) (b := b) (x := x) (by rw [← hb, LRR.out]) hx
              rw [this, hss, hrs])
            rw [hrs, hss] at hcs
            clear hrs hss
            obtain ⟨w5, rfl⟩ : ∃ w5 : World, w5 = wr := ⟨_, rfl⟩
            obtain ⟨zz1, zz2⟩ : G1 < w5.heap.size ∧ G2 < w5.heap.size := ⟨hcs.out.z1, hcs.out.z2⟩
            go_wp2_with fail
            go_loopw [12, 13] (fun t u wr => ∃ i : Nat, t = .int .i64 (maxQ rs i : Nat) ∧ u = .int .i64 i ∧ 1 ≤ i ∧ i ≤ k ∧ Hid (Below w5.heap.size w5 wr)) (fun _ u _ => k - (intOf u).toNat)
            case atStart => exact ⟨1, by rw [maxQ_one]; rfl, rfl, Nat.le_refl _, by omega, Lib.hid (Below.refl _ _)⟩
            case round =>
              obtain ⟨i, rfl, rfl, hi1, hik, hbw⟩ := hrel
              by_cases hlt3 : i < k
              · obtain ⟨v, hv⟩ : ∃ v, maxQ rs i = v := ⟨_, rfl⟩
                have HB := Lib.hid hv
                have hvl : v < k := by rw [← hv]; exact maxQ_lt rs hik (by omega)
                rw [hv]
                clear hv
                have i1 : (i : Int) < (k : Int) := by omega
                have i2 : (0 : Int) ≤ (i : Int) := by omega
                have i3 : (v : Int) < (k : Int) := by omega
                have i4 : (0 : Int) ≤ (v : Int) := by omega
                obtain ⟨x, y, hxy⟩ := get_q (qs := rs) (k := i) (by rw [LRS.out]; exact hlt3)
                obtain ⟨x', y', hxy'⟩ := get_q (qs := rs) (k := v) (by rw [LRS.out]; exact hvl)
                have S1 := Lib.hid (SM.out (x, y) (List.mem_of_getElem? hxy))
                have S2 := Lib.hid (SM.out (x', y') (List.mem_of_getElem? hxy'))
                have HBS := Lib.hid (show maxQ rs (i + 1) = if 0 < cmpI (x * y') (x' * y) then i else v by
                  show (if 0 < cmpI ((getQ rs i).1 * (getQ rs (maxQ rs i)).2) ((getQ rs (maxQ rs i)).1 * (getQ rs i).2) then i else maxQ rs i) = _
                  rw [HB.out, getQ_some hxy, getQ_some hxy'])
                have CW := Lib.hid (hcs.out.step hbw.out)
                obtain ⟨c0, c3, -, -⟩ := CW.out.cells2 hxy
                obtain ⟨c4, c5, -, -⟩ := CW.out.cells2 hxy'
                clear hxy hxy'
                go_wp2_with fail
                go_still_tail 8, (by kernel_rfl)
                change wpList _ _ _ _ _ (World.drew _)
                go_wp2_with fail
                refine (spec_l01Compare_c _ _ _ _ _ S1.out S2.out).mono ?_
                rintro e w3 ⟨rfl, b3⟩
                have B3 := Lib.hid (below_step hbw.out.drew b3 hbw.out.drew.size)
                clear b3 c0 c3 c4 c5
                obtain ⟨cv, hcv⟩ : ∃ cv, cmpI (x * y') (x' * y) = cv := ⟨_, rfl⟩
                rw [hcv] at HBS
                rw [hcv]
                clear hcv
                by_cases hc : 0 < cv
                · have HS2 := Lib.hid (show maxQ rs (i + 1) = i by rw [HBS.out, if_pos hc])
                  go_wp2_with fail
                  go_roundw
                  case rel => exact ⟨i + 1, by rw [HS2.out], by go_num, by omega, by omega, B3⟩
                  case measure => simp [intOf]; omega
                · have HS2 := Lib.hid (show maxQ rs (i + 1) = v by rw [HBS.out, if_neg hc])
                  go_wp2_with fail
                  go_roundw
                  case rel => exact ⟨i + 1, by rw [HS2.out], by go_num, by omega, by omega, B3⟩
                  case measure => simp [intOf]; omega
              · obtain rfl : i = k := by omega
                obtain ⟨b, hb⟩ : ∃ b, maxQ rs i = b := ⟨_, rfl⟩
                have hbl : b < i := by rw [← hb]; exact maxQ_lt rs (Nat.le_refl _) (by omega)
                obtain ⟨x, hx⟩ := get_some (zs := ss) (k := b) (by rw [LSS.out]; exact hbl)
                obtain ⟨y, y', hy⟩ := get_q (qs := rs) (k := b) (by rw [LRS.out]; exact hbl)
                obtain ⟨x0, x1⟩ := BD.out x (List.mem_of_getElem? hx)
                have HST := Lib.hid (ST.out b x hb hx)
                have CW := Lib.hid (hcs.out.step hbw.out)
                obtain ⟨c0, c1⟩ := CW.out.cells1 hx
                have C1 := Lib.hid (CW.out.set1 (j := b) (by rw [LSS.out]; exact hbl) (x + 1))
                obtain ⟨r0, r1, r2, r3⟩ := C1.out.cells2 hy
                have C2 := Lib.hid (C1.out.set2 (j := b) (by rw [LRS.out]; exact hbl) (-1) 1)
                have i1 : (b : Int) < (i : Int) := by omega
                have i2 : (0 : Int) ≤ (b : Int) := by omega
                have jb : (j : Int) ≤ 6000000000 := by omega
                rw [hb]
                clear hb hx hy
                go_wp2_with fail
                go_roundw
                case rel => exact ⟨j + 1, by go_num, by omega, by rw [HST.out]; exact C2⟩
                case measure => simp [intOf]; omega
          · have hje : j = L.toNat := by omega
            have HV2 := Lib.hid (show mcV S P = (giveQ j (F, R)).1 by rw [HV.out, hje])
            have HLl := Lib.hid (show (giveQ j (F, R)).1.length = k by rw [(GL.out j).1]; exact LF.out)
            have hz := hcs.out.z1
            have hB := hcs.out.below
            have hw1 := B1.out.size
            clear hje
            go_wp2_with fail
            go_ret2
            rw [HV2.out, HE.out]
            exact LR.mk rfl HLl.out (by omega) (hcs.out.s.widen (by have := hcs.out.l1; omega) (by omega)) (below_step B1.out hB B1.out.size)
  · have HV := Lib.hid (show mcV S P = [] by unfold mcV; rw [if_neg hE])
    obtain ⟨E, hE2⟩ : ∃ E, feE S P = E := ⟨_, rfl⟩
    rw [hE2] at hE
    have HE := Lib.hid hE2
    have hB : (E == 0) = false := by simp [hE]
    have hB2 : (E != 0) = true := by simp [hE]
    rw [HE.out]
    clear hE2
    go_enter Try.func13, Try.ntmps13
    go_wp2_with fail
    refine (spec_FieldEquities_c A n c S B m d P _ HN.out hm hr HN'.out hm' hr' hmd).mono ?_
    rintro e w1 ⟨G, g1, c1, rfl, hl1, hm1, ho1, b1⟩
    rw [HE.out]
    go_wp2_with fail
    go_ret2
    rw [HV.out]
    exact LR.mk rfl rfl (Nat.zero_le _) (OI.nil _ _ _ _) b1
end Go.Proofs.Ythpgkngkmmameaa
namespace Go.Proofs.Ythpgkngkmmameaa
open Go.RowKit
set_option linter.unusedVariables false
structure RowPair (w wr : World) (g1 n1 c1 : Nat) (l1 : List Int) (g2 n2 c2 : Nat) (l2 : List Int) : Prop where
  ne : g1 ≠ g2
  r1 : Row wr w.heap.size (some ⟨g1, 0, none⟩) n1 c1 l1
  r2 : Row wr w.heap.size (some ⟨g2, 0, none⟩) n2 c2 l2
  below : Below w.heap.size w wr
section
variable {w wr : World} {g1 n1 c1 g2 n2 c2 : Nat} {l1 l2 : List Int}
theorem RowPair.swap (h : RowPair w wr g1 n1 c1 l1 g2 n2 c2 l2) : RowPair w wr g2 n2 c2 l2 g1 n1 c1 l1 := ⟨h.ne.symm, h.r2, h.r1, h.below⟩
theorem RowPair.alloc (h : RowPair w wr g1 n1 c1 l1 g2 n2 c2 l2) (o : Obj) : RowPair w (wr.alloc o) g1 n1 c1 l1 g2 n2 c2 l2 := ⟨h.ne, h.r1.alloc o, h.r2.alloc o, h.below.alloc h.below.size o⟩
theorem RowPair.drewN (h : RowPair w wr g1 n1 c1 l1 g2 n2 c2 l2) (q : Nat) : RowPair w (wr.drewN q) g1 n1 c1 l1 g2 n2 c2 l2 := ⟨h.ne, h.r1, h.r2, below_drewN h.below _⟩
theorem RowPair.step {w' : World} (h : RowPair w wr g1 n1 c1 l1 g2 n2 c2 l2) (hb : Below wr.heap.size wr w') : RowPair w w' g1 n1 c1 l1 g2 n2 c2 l2 := ⟨h.ne, h.r1.below hb, h.r2.below hb, below_step h.below hb h.below.size⟩
theorem Row.blt {base g n c : Nat} {zs : List Int} (h : Row wr base (some ⟨g, 0, none⟩) n c zs) : base ≤ g ∧ g < wr.heap.size := by
  rcases h.2 with ⟨hv, _⟩ | ⟨g', cap, cur, hv, hb, hg, _⟩
  · cases hv
  · injection hv with hv _ _
    injection hv with hv
    injection hv with hv
    subst hv
    exact ⟨hb, (Array.getElem?_eq_some_iff.1 hg).1⟩
theorem RowPair.new (w : World) : RowPair w ((w.alloc (.cells #[] 2)).alloc (.cells #[] 2)) w.heap.size 0 0 [] (w.heap.size + 1) 0 0 [] := by
  have h1 := (Row.empty w (Nat.le_refl w.heap.size)).alloc (.cells #[] 2)
  have h2 := Row.empty (w.alloc (.cells #[] 2)) (base := w.heap.size) (by simp)
  rw [show (w.alloc (.cells #[] 2)).heap.size = w.heap.size + 1 by simp] at h2
  exact ⟨by omega, h1, h2, (((Below.refl _ _).alloc (Nat.le_refl _) _).alloc (by simp) _)⟩
/-- 'append(a, y)', a the first of the pair. -/
theorem wpList_pair1 {ops : Array Oper} {rest : List Oper} {o : Oper} {a : Act} {Q : Exit → Act → World → Prop} (hgd : o.guard = none) (s x : Operand)
    (ho : o.op = .call { callee := .builtin .append, args := #[s, x], argTypes := #[22, 22] })
    (hp : RowPair w wr g1 n1 c1 l1 g2 n2 c2 l2) (hs : a.eval s = .slice (some ⟨g1, 0, none⟩) n1 c1)
    (g cx : Nat) (y : Int) (hx : a.eval x = .slice (some ⟨g, 0, none⟩) 1 cx) (hy : wr.cell? ⟨g, 0, none⟩ = some (.int .i64 y)) (hlen : n1 ≤ 10000000)
    (h : ∀ (g' c' : Nat) (w' : World), RowPair w w' g' (n1 + 1) c' (l1 ++ [y]) g2 n2 c2 l2 → wpList Try.prog ops Q rest (a.put o.dst (.slice (some ⟨g', 0, none⟩) (n1 + 1) c')) w') :
    wpList Try.prog ops Q (o :: rest) a wr := by
  obtain ⟨i0, hi, hz0, hz1, hz2⟩ := info_parts info_int
  have hbase := hp.below.size
  refine wpList_append_lies (P := Try.prog) wr hgd s x 22 ho w.heap.size 2 i0 (.int .i64 0) 1 8 Try.underlying22 hi hz0 hz1 hz2 rfl (by decide) (.slice (some ⟨g1, 0, none⟩) n1 c1) n1 _ hs hp.r1 ⟨g, 0, none⟩ 1 cx [.int .i64 y] hx rfl ?_ ?_ (by decide) (by unfold maxLen; omega) (by omega) hbase wr.heap.size rfl ?_
  · intro j u hu
    cases j with
    | zero => simp at hu; subst hu; rw [Addr.add_lit]; exact hy
    | succ j => simp at hu
  · intro u hu
    simp at hu
    subst hu
    rfl
  · intro g' cap w' hown' hg hlies hlt
    refine h g' cap w' ⟨?_, ?_, ?_, ?_⟩
    · rcases hlies with e | e
      · have : g1 = g' := by simpa [Value.ownBlock] using e
        rw [← this]; exact hp.ne
      · have := hp.r2.blt.2
        omega
    · unfold Row
      simpa using hown'
    · refine World.ownsRow.kept hp.r2 hg (.inr ?_)
      intro e
      have : g2 = g1 := by simpa [Value.ownBlock] using e
      exact hp.ne this.symm
    · refine hp.below.grown hg hbase (fun k hk => ?_)
      have : g1 = k := by simp [Value.ownBlock] at hk; omega
      rw [← this]
      exact hp.r1.blt.1
/-- 'append(b, y)', b the second of the pair. -/
theorem wpList_pair2 {ops : Array Oper} {rest : List Oper} {o : Oper} {a : Act} {Q : Exit → Act → World → Prop} (hgd : o.guard = none) (s x : Operand)
    (ho : o.op = .call { callee := .builtin .append, args := #[s, x], argTypes := #[22, 22] })
    (hp : RowPair w wr g1 n1 c1 l1 g2 n2 c2 l2) (hs : a.eval s = .slice (some ⟨g2, 0, none⟩) n2 c2)
    (g cx : Nat) (y : Int) (hx : a.eval x = .slice (some ⟨g, 0, none⟩) 1 cx) (hy : wr.cell? ⟨g, 0, none⟩ = some (.int .i64 y)) (hlen : n2 ≤ 10000000)
    (h : ∀ (g' c' : Nat) (w' : World), RowPair w w' g1 n1 c1 l1 g' (n2 + 1) c' (l2 ++ [y]) → wpList Try.prog ops Q rest (a.put o.dst (.slice (some ⟨g', 0, none⟩) (n2 + 1) c')) w') :
    wpList Try.prog ops Q (o :: rest) a wr :=
  wpList_pair1 hgd s x ho hp.swap hs g cx y hx hy hlen fun g' c' w' hp' => h g' c' w' hp'.swap
end
end Go.Proofs.Ythpgkngkmmameaa
namespace Go.Proofs.Ythpgkngkmmameaa
open Go.RowKit
set_option linter.unusedVariables false
theorem spec_l30Ones_c (n : Nat) (w : World) (h1 : n ≤ 1000) :
    Calls Try.prog 101 #[.int .i64 n] w fun e w' => ∃ g c', e = .returned (.slice (some ⟨g, 0, none⟩) n c') ∧ Row w' w.heap.size (some ⟨g, 0, none⟩) n c' (List.replicate n 1) ∧ Below w.heap.size w w' := by
  go_enter Try.func101, Try.ntmps101
  go_wp2_with fail
  go_loopw [0, 3] (fun m o wr => ∃ k g c', m = .int .i64 ((n - k : Nat) : Int) ∧ o = .slice (some ⟨g, 0, none⟩) k c' ∧ k ≤ n ∧ Row wr w.heap.size (some ⟨g, 0, none⟩) k c' (List.replicate k 1) ∧ Below w.heap.size w wr) (fun m _ _ => (intOf m).toNat)
  case atStart => exact ⟨0, _, _, rfl, rfl, Nat.zero_le _, Row.empty w (Nat.le_refl _), (Below.refl _ _).alloc (Nat.le_refl _) _⟩
  case round =>
    obtain ⟨k, g, c', rfl, rfl, hk, ho, hbr⟩ := hrel
    have hsz := hbr.size
    by_cases hlt : k < n
    · have b1 : (0 : Int) < ((n - k : Nat) : Int) := by omega
      go_wp2_with (at_builtin; refine wpList_append1 rfl _ _ rfl w.heap.size (some ⟨g, 0, none⟩) k c' _ rfl (Row.alloc ho _) wr.heap.size 1 1 rfl (by simp) (by omega) (by simp; omega) ?_; intro g2 c2 w2 hr2 hb2 hg2)
      go_roundw
      case rel => exact ⟨k + 1, g2, c2, by congr 1; omega, rfl, by omega, by rw [List.replicate_succ']; exact hr2, (hbr.alloc (by omega) _).trans hb2⟩
      case measure => simp [intOf]; omega
    · obtain rfl : k = n := by omega
      go_wp2_with fail
      go_ret
      exact ⟨g, c', rfl, ho, hbr⟩
set_option maxHeartbeats 2000000 in
theorem spec_l30GiveOut_c (A B : Option Addr) (n c d : Nat) (u L : Int) (zs rs : List Int) (w : World) (hl : zs.length = n) (hl' : rs.length = n) (h1 : 1 ≤ n) (hn1 : n ≤ 1000) (hr : RI w A zs) (hr' : RI w B rs) (hz : ∀ x ∈ zs, 0 ≤ x ∧ x ≤ u) (u1 : u ≤ 10000000) (z1 : L ≤ 100000000000) (z0 : -100000000000 ≤ L) :
    Calls Try.prog 153 #[.slice A n c, .slice B n d, .int .i64 L] w (SL w n (giveK L.toNat (zs, rs)).1) := by
  obtain ⟨P, hP⟩ : ∃ P, P = (zs, rs) := ⟨_, rfl⟩
  have HB := Lib.hid (show ∀ k : Nat, ∀ x ∈ (giveK k P).1, 0 ≤ x ∧ x ≤ u + k by rw [hP]; exact giveK_bd (p := (zs, rs)) hz (by rw [hl, hl']) (by rw [hl']; omega))
  have HL1 := Lib.hid (show ∀ k : Nat, (giveK k P).1.length = n by intro k; rw [giveK_len1, hP]; exact hl)
  have HL2 := Lib.hid (show ∀ k : Nat, (giveK k P).2.length = n by intro k; rw [giveK_len2, hP]; exact hl')
  have u0 : 0 ≤ u := by
    have hx := List.getElem_mem (l := zs) (n := 0) (by omega)
    have := hz _ hx
    omega
  have Hl := Lib.hid hl
  have Hl' := Lib.hid hl'
  have HP := Lib.hid hP
  clear hl hl' hz hP
  go_enter Try.func153, Try.ntmps153
  go_wp2_with fail
  refine (spec_l01Own_c _ _ _ zs _ Hl.out h1 (by omega) hr).mono ?_
  rintro e w1 ⟨g1, c1, rfl, o1, b1⟩
  go_wp2_with fail
  refine (spec_l01Own_c _ _ _ rs _ Hl'.out h1 (by omega) (hr'.below b1)).mono ?_
  rintro e w2 ⟨g2, c2, rfl, o2, b2⟩
  have hst := Lib.hid (show DivSt w w2 g1 g2 (giveK 0 P).1 (giveK 0 P).2 by
    have k1 := o1.oi.lt (by rw [Hl.out]; omega)
    have k2 := o2.oi.lt (by rw [Hl'.out]; omega)
    rw [HP.out]
    have hs1 := b1.size
    exact ⟨by omega, (o1.below b2).oi.exact, o2.oi.exact, below_step b1 b2 hs1, k1.1, by omega⟩)
  clear o1 o2 b1 b2
  go_wp2_with fail
  go_loopw [2] (fun l wr => ∃ (j : Nat), l = .int .i64 (L - j) ∧ j ≤ L.toNat ∧ Hid (DivSt w wr g1 g2 (giveK j P).1 (giveK j P).2)) (fun l _ => (intOf l).toNat)
  case atStart => exact ⟨0, by simp, Nat.zero_le _, hst⟩
  case round =>
    clear hst
    obtain ⟨j, rfl, hj, hs⟩ := hrel
    by_cases hlt : 0 < L - j
    · have hjb : (j : Int) ≤ 100000000000 := by omega
      have hdj : decide ((j : Int) < L) = true := by simp; omega
      go_wp2_with fail
      obtain ⟨wo, rfl⟩ : ∃ wo : World, wo = wr := ⟨_, rfl⟩
      go_loopw [7, 8] (fun b i wr => ∃ (k m : Nat), b = .int .i64 m ∧ i = .int .i64 (k + 1 : Nat) ∧ k + 1 ≤ n ∧ Hid (m = amaxTo (giveK j P).2 k) ∧ m ≤ k ∧ Hid (DivSt w wr g1 g2 (giveK j P).1 (giveK j P).2)) (fun _ i _ => n - (intOf i).toNat)
      case atStart => exact ⟨0, 0, rfl, rfl, h1, Lib.hid rfl, Nat.le_refl _, hs⟩
      case round =>
        clear hs
        obtain ⟨k, m, rfl, rfl, hk, hm, hmk, hs⟩ := hrel
        have b1 : (m : Int) < (n : Int) := by omega
        have b2 : (0 : Int) ≤ (m : Int) := by omega
        by_cases hkn : k + 1 < n
        · obtain ⟨x, hx⟩ := get_some (zs := (giveK j P).2) (k := k + 1) (by rw [HL2.out]; exact hkn)
          obtain ⟨y, hy⟩ := get_some (zs := (giveK j P).2) (k := m) (by rw [HL2.out]; omega)
          obtain ⟨c1, f1⟩ := hs.out.cells2 hx
          obtain ⟨c2, f2⟩ := hs.out.cells2 hy
          have ex : (giveK j P).2.getD (k + 1) 0 = x := by simp [List.getD, hx]
          have ey : (giveK j P).2.getD m 0 = y := by simp [List.getD, hy]
          have b3 : ((k + 1 : Nat) : Int) < (n : Int) := by omega
          have b4 : (0 : Int) ≤ ((k + 1 : Nat) : Int) := by omega
          by_cases hxy : y < x
          · have HM := Lib.hid (show k + 1 = amaxTo (giveK j P).2 (k + 1) by unfold amaxTo; rw [← hm.out, ex, ey, if_pos hxy])
            clear hx hy ex ey
            go_wp2_with fail
            go_quiet (fail)
            go_wp2_with fail
            go_roundw
            case rel => exact ⟨k + 1, k + 1, rfl, by go_num, by omega, HM, Nat.le_refl _, Lib.hid (hs.out.drewN _)⟩
            case measure => simp [intOf]; omega
          · have HM := Lib.hid (show m = amaxTo (giveK j P).2 (k + 1) by unfold amaxTo; rw [← hm.out, ex, ey, if_neg hxy])
            clear hx hy ex ey
            go_wp2_with fail
            go_quiet (fail)
            go_wp2_with fail
            go_roundw
            case rel =>
              have HD := Lib.hid (hs.out.drewN (wr := wr) nq)
              first
                | exact ⟨k + 1, m, rfl, by go_num, by omega, HM, by omega, HD⟩
                | ((repeat apply Exists.intro); refine And.intro ?_ rfl; exact ⟨k + 1, m, rfl, by go_num, by omega, HM, by omega, HD⟩)
            case measure => simp [intOf]; omega
        · have hm2 : m = amaxL (giveK j P).2 := by unfold amaxL; rw [HL2.out, show n - 1 = k by omega]; exact hm.out
          have hmn : m < n := by omega
          obtain ⟨x, hx⟩ : ∃ x, x = (giveK j P).1.getD m 0 := ⟨_, rfl⟩
          have hgx : (giveK j P).1[m]? = some x := by rw [hx]; exact get_getD (by rw [HL1.out]; exact hmn)
          obtain ⟨y, hgy⟩ := get_some (zs := (giveK j P).2) (k := m) (by rw [HL2.out]; exact hmn)
          obtain ⟨x0, x1⟩ := HB.out j x (List.mem_of_getElem? hgx)
          obtain ⟨c1, f1⟩ := hs.out.cells1 hgx
          obtain ⟨c2, f2⟩ := hs.out.cells2 hgy
          have hne : ¬ g1 = g2 := hs.out.ne
          have hne' : ¬ g2 = g1 := fun h => hne h.symm
          have DS := Lib.hid ((hs.out.set1 (j := m) (by rw [HL1.out]; exact hmn) (x + 1)).set2 (j := m) (by rw [HL2.out]; exact hmn) (-1))
          have DE := Lib.hid (show giveK (j + 1) P = ((giveK j P).1.set m (x + 1), (giveK j P).2.set m (-1)) by rw [hx, hm2]; rfl)
          clear hm2 hm hx hgx hgy hs
          go_wp2_with fail
          go_roundw
          case rel =>
            refine ⟨j + 1, by go_num, by omega, Lib.hid ?_⟩
            rw [DE.out]
            exact DS.out
          case measure => simp [intOf]; omega
    · have hje : j = L.toNat := by omega
      have hs2 := hs.out.s
      have hlt := OI.lt hs2 (by rw [HL1.out]; omega)
      have HO := Lib.hid (hs2.widen (lo' := w.heap.size) (hi' := wr.heap.size) hs.out.l1 (by omega))
      have HBl := Lib.hid hs.out.below
      have HE := Lib.hid hje
      clear hje hs2 hs hlt
      go_wp2_with fail
      go_ret
      refine ⟨_, _, rfl, ?_, HBl.out⟩
      have := HO.out
      rw [HE.out, HP.out] at this
      exact this
set_option maxHeartbeats 2000000 in
theorem spec_l30Divide_c (A : Option Addr) (n c : Nat) (u : Int) (zs : List Int) (w : World) (hn : zs.length = n) (h1 : 1 ≤ n) (hr : RI w A zs) (hok : DivOk u zs) :
    Calls Try.prog 99 #[.int .i64 u, .slice A n c] w (SL w n (divV u zs)) := by
  subst hn
  have hn1 := hok.n1
  have u0 := hok.u0
  have u1 := hok.u1
  have t0 := hok.t0
  have t1 := hok.t1
  have hz := Lib.hid (show ∀ x ∈ zs, -4000000000 ≤ x ∧ x ≤ 4000000000 from fun x hx => by have := hok.w x hx; omega)
  rcases hr.split with h0 | ⟨b, off, rfl, hb, hc⟩
  · omega
  have hm : zs.length ≤ 1048576 := by omega
  go_enter Try.func99, Try.ntmps99
  go_wp2_with (go_at_call 84; refine (spec_l01Sum_c _ _ _ zs _ rfl hm hr hz).mono ?_; rintro e w' ⟨rfl, rfl⟩)
  have hst := Lib.hid (RowPair.new w)
  go_loopw [6, 7, 8] (fun s r i wr => ∃ (k g1 c1 g2 c2 : Nat), s = .slice (some ⟨g1, 0, none⟩) k c1 ∧ r = .slice (some ⟨g2, 0, none⟩) k c2 ∧ i = .int .i64 k ∧ k ≤ zs.length ∧ Hid (RowPair w wr g1 k c1 ((floorL u (sumL zs) zs).take k) g2 k c2 ((restL u (sumL zs) zs).take k))) (fun _ _ i _ => zs.length - (intOf i).toNat)
  case atStart => exact ⟨0, _, _, _, _, rfl, rfl, rfl, Nat.zero_le _, hst⟩
  case round =>
    clear hst
    obtain ⟨k, g1, c1, g2, c2, rfl, rfl, rfl, hk, hp⟩ := hrel
    have hsz := hp.out.below.size
    by_cases hlt : k < zs.length
    · obtain ⟨x, hx⟩ := get_some hlt
      obtain ⟨p0, p1, q0, q1, r0, r1⟩ := hok.at_ (List.mem_of_getElem? hx)
      have hcx := (hp.out.below.cell (p := ⟨b, off + k, none⟩) hb).trans (hc.out k x hx)
      have e1 : IntKind.i64.wrap (u * x) = u * x := by rw [IntKind.wrap_i64]; omega
      have e2 : (u * x).tdiv (sumL zs) = u * x / sumL zs := Int.tdiv_eq_ediv_of_nonneg p0
      have e3 : (u * x).tmod (sumL zs) = u * x % sumL zs := Int.tmod_eq_emod_of_nonneg p0
      have b1 : (k : Int) < (zs.length : Int) := by omega
      have b2 : (0 : Int) ≤ (k : Int) := by omega
      have b3 : ¬ sumL zs = 0 := by omega
      have H1 := Lib.hid (show (floorL u (sumL zs) zs).take (k + 1) = (floorL u (sumL zs) zs).take k ++ [u * x / sumL zs] by rw [List.take_add_one, floor_get (u := u) (T := sumL zs) hx]; rfl)
      have H2 := Lib.hid (show (restL u (sumL zs) zs).take (k + 1) = (restL u (sumL zs) zs).take k ++ [u * x % sumL zs] by rw [List.take_add_one, rest_get (u := u) (T := sumL zs) hx]; rfl)
      have hp' := hp.out
      have H0 := Lib.hid hx
      clear hx
      have tok : True := trivial
      go_wp2_with (first
        | (at_builtin; have _t := tok; refine wpList_pair1 rfl _ _ rfl (hp'.alloc _) rfl wr.heap.size 1 (u * x / sumL zs) rfl (by simp) (by omega) ?_; intro g3 c3 w3 hp3; have hcx3 := (hp3.below.cell (p := ⟨b, off + k, none⟩) hb).trans (hc.out k x H0.out); clear tok)
        | (at_builtin; refine wpList_pair2 rfl _ _ rfl (hp3.alloc _) rfl w3.heap.size 1 (u * x % sumL zs) rfl (by simp) (by omega) ?_; intro g4 c4 w4 hp4))
      go_roundw
      case rel => exact ⟨k + 1, g3, c3, g4, c4, rfl, rfl, by go_num, by omega, Lib.hid (by rw [H1.out, H2.out]; exact hp4)⟩
      case measure => simp [intOf]; omega
    · have hp2 := hp.out
      obtain ⟨s0, s1⟩ := hok.sum zs.length
      have hke : k = zs.length := by omega
      rw [hke, List.take_of_length_le (by rw [floor_len]; omega), List.take_of_length_le (by rw [rest_len]; omega)] at hp2
      rw [List.take_of_length_le (by rw [floor_len]; omega)] at s0 s1
      have z0 : -100000000000 ≤ leftD u zs := by unfold leftD; rw [sumD_sumL, sumD_sumL]; omega
      have z1 : leftD u zs ≤ 100000000000 := by unfold leftD; rw [sumD_sumL, sumD_sumL]; omega
      have HL := Lib.hid (show u - sumL (floorL u (sumL zs) zs) = leftD u zs from rfl)
      have HF := Lib.hid (show ∀ x ∈ floorL u (sumL zs) zs, -4000000000 ≤ x ∧ x ≤ 4000000000 from fun x hx => by have := hok.floor x hx; omega)
      have HO1 := Lib.hid hp2.r1.oi.ri
      have HO2 := Lib.hid hp2.r2.oi.ri
      have HB := Lib.hid hp2.below
      have HF2 := Lib.hid hok.floor
      have hfl : (floorL u (sumL zs) zs).length = zs.length := floor_len _ _ _
      have hrl : (restL u (sumL zs) zs).length = zs.length := rest_len _ _ _
      have HV := Lib.hid (show (giveK (leftD u zs).toNat (floorL u (sumL zs) zs, restL u (sumL zs) zs)).1 = divV u zs from rfl)
      have HF1 := Lib.hid hfl
      have HR1 := Lib.hid hrl
      subst hke
      clear hp hp2 hfl hrl hc
      go_wp2_with (go_at_call 84; refine (spec_l01Sum_c _ _ _ (floorL u (sumL zs) zs) _ HF1.out hm HO1.out HF).mono ?_; rintro e w' ⟨rfl, rfl⟩)
      refine (spec_l30GiveOut_c _ _ _ _ _ u _ (floorL u (sumL zs) zs) (restL u (sumL zs) zs) _ HF1.out HR1.out h1 hn1 HO1.out HO2.out HF2.out u1 (by rw [HL.out]; exact z1) (by rw [HL.out]; exact z0)).mono ?_
      rintro e w5 ⟨g5, c5, rfl, o5, b5⟩
      rw [HL.out, HV.out] at o5
      go_wp2_with fail
      go_ret
      exact ⟨g5, c5, rfl, o5.widen hsz (Nat.le_refl _), below_step HB.out b5 hsz⟩
end Go.Proofs.Ythpgkngkmmameaa
namespace Go.Proofs.Ythpgkngkmmameaa
open Go.RowKit
set_option linter.unusedVariables false
/-- Units of at most 10000000 and weights of 1. -/
theorem ones_ok {u : Int} {n : Nat} (h0 : 0 ≤ u) (h1 : u ≤ 10000000) (h2 : 1 ≤ n) (h3 : n ≤ 1000) : DivOk u (List.replicate n 1) := by
  refine ⟨h0, h1, fun x hx => ?_, ?_, by simpa using h3⟩
  · have := List.eq_of_mem_replicate hx; omega
  · rw [← sumD_sumL, sumD_ones]; omega
theorem sumL_nonneg {l : List Int} (h : ∀ x ∈ l, 0 ≤ x) : 0 ≤ sumL l := sumD_nonneg h
def dmB (ws : List Int) : Bool := inB (ws.length : Int) 1 5 && allIn ws 0 1000000 && decide (0 < sumL ws)
theorem dmB_ok {u : Int} {ws : List Int} (h : dmB ws = true) (hu : inB u 0 1000000 = true) : DivOk u ws := by
  unfold dmB at h
  rw [Bool.and_eq_true, Bool.and_eq_true, inB_iff, allIn_iff, decide_eq_true_eq] at h
  obtain ⟨⟨h1, h2⟩, h3⟩ := h
  have := inB_iff.1 hu
  exact ⟨by omega, by omega, fun x hx => by have := h2 x hx; omega, by omega, by omega⟩
def dmV (u : Int) (ws : List Int) : List Int := if dmB ws = true then (if inB u 0 1000000 = true then divV u ws else []) else []
def dmE (u : Int) (ws : List Int) : Int := if dmB ws = true then (if inB u 0 1000000 = true then 0 else 2) else 1
theorem impl_DivideMoney_c (u : Int) (A : Option Addr) (n c : Nat) (ws : List Int) (w : World) (hn : ws.length = n) (hm : n ≤ 1048576) (hr : RI w A ws) :
    Calls Try.prog 23 #[.int .i64 u, .slice A n c] w (LR w (dmV u ws) (dmE u ws)) := by
  subst hn
  cases h1 : inB (ws.length : Int) 1 5
  · have HV := Lib.hid (show dmV u ws = [] by simp [dmV, dmB, h1])
    have HE := Lib.hid (show dmE u ws = 1 by simp [dmE, dmB, h1])
    go_enter Try.func23, Try.ntmps23
    go_wp2_with (go_at_call 94; refine (impl_within_c _ _ _ _).mono ?_; rintro e w' ⟨rfl, rfl⟩)
    go_ret2
    rw [HV.out, HE.out]
    exact LR.mk rfl rfl (Nat.zero_le _) (OI.nil _ _ _ _) (Below.refl _ _)
  cases h2 : allIn ws 0 1000000
  · have HV := Lib.hid (show dmV u ws = [] by simp [dmV, dmB, h2])
    have HE := Lib.hid (show dmE u ws = 1 by simp [dmE, dmB, h2])
    go_enter Try.func23, Try.ntmps23
    go_wp2_with (first
      | (go_at_call 94; refine (impl_within_c _ _ _ _).mono ?_; rintro e w' ⟨rfl, rfl⟩)
      | (go_at_call 95; refine (impl_allWithin_c _ _ _ ws _ _ _ rfl hm hr).mono ?_; rintro e w' ⟨rfl, rfl⟩))
    go_ret2
    rw [HV.out, HE.out]
    exact LR.mk rfl rfl (Nat.zero_le _) (OI.nil _ _ _ _) (Below.refl _ _)
  have hz := Lib.hid (show ∀ x ∈ ws, -4000000000 ≤ x ∧ x ≤ 4000000000 from fun x hx => by have := allIn_iff.1 h2 x hx; omega)
  have hs0 := sumL_nonneg (fun x hx => (allIn_iff.1 h2 x hx).1)
  by_cases h3 : 0 < sumL ws
  · have hne : (sumL ws == 0) = false := by simp; omega
    cases h4 : inB u 0 1000000
    · have HV := Lib.hid (show dmV u ws = [] by simp [dmV, dmB, h4])
      have HE := Lib.hid (show dmE u ws = 2 by simp [dmE, dmB, h1, h2, h3, h4])
      go_enter Try.func23, Try.ntmps23
      go_wp2_with (first
        | (go_at_call 94; refine (impl_within_c _ _ _ _).mono ?_; rintro e w' ⟨rfl, rfl⟩)
        | (go_at_call 95; refine (impl_allWithin_c _ _ _ ws _ _ _ rfl hm hr).mono ?_; rintro e w' ⟨rfl, rfl⟩)
        | (go_at_call 87; refine (impl_sumOf_c _ _ _ ws _ rfl hm hr hz).mono ?_; rintro e w' ⟨rfl, rfl⟩))
      go_ret2
      rw [HV.out, HE.out]
      exact LR.mk rfl rfl (Nat.zero_le _) (OI.nil _ _ _ _) (Below.refl _ _)
    · have hok := dmB_ok (ws := ws) (by simp [dmB, h1, h2, h3]) h4
      have HV := Lib.hid (show dmV u ws = divV u ws by simp [dmV, dmB, h1, h2, h3, h4])
      have HE := Lib.hid (show dmE u ws = 0 by simp [dmE, dmB, h1, h2, h3, h4])
      have hl := inB_iff.1 h1
      go_enter Try.func23, Try.ntmps23
      go_wp2_with (first
        | (go_at_call 94; refine (impl_within_c _ _ _ _).mono ?_; rintro e w' ⟨rfl, rfl⟩)
        | (go_at_call 95; refine (impl_allWithin_c _ _ _ ws _ _ _ rfl hm hr).mono ?_; rintro e w' ⟨rfl, rfl⟩)
        | (go_at_call 87; refine (impl_sumOf_c _ _ _ ws _ rfl hm hr hz).mono ?_; rintro e w' ⟨rfl, rfl⟩))
      refine (impl_divided_c _ _ _ _ ws _ rfl (by omega) hr hok).mono ?_
      rintro e w1 ⟨g, rfl, ho, hb⟩
      go_wp2_with fail
      go_ret2
      rw [HV.out, HE.out]
      exact LR.mk rfl (divV_len _ _) hm ho hb
  · have hne : (sumL ws == 0) = true := by simp; omega
    have HV := Lib.hid (show dmV u ws = [] by simp [dmV, dmB, h3])
    have HE := Lib.hid (show dmE u ws = 1 by simp [dmE, dmB, h3])
    go_enter Try.func23, Try.ntmps23
    go_wp2_with (first
      | (go_at_call 94; refine (impl_within_c _ _ _ _).mono ?_; rintro e w' ⟨rfl, rfl⟩)
      | (go_at_call 95; refine (impl_allWithin_c _ _ _ ws _ _ _ rfl hm hr).mono ?_; rintro e w' ⟨rfl, rfl⟩)
      | (go_at_call 87; refine (impl_sumOf_c _ _ _ ws _ rfl hm hr hz).mono ?_; rintro e w' ⟨rfl, rfl⟩))
    go_ret2
    rw [HV.out, HE.out]
    exact LR.mk rfl rfl (Nat.zero_le _) (OI.nil _ _ _ _) (Below.refl _ _)
theorem spec_l30Weights_c (A : Option Addr) (n c : Nat) (zs : List Int) (w : World) (hn : zs.length = n) (hm : n ≤ 1048576) (hr : RI w A zs) :
    Calls Try.prog 97 #[.slice A n c] w fun e w' => e = .returned (.bool (dmB zs)) ∧ w = w' := by
  subst hn
  rcases hr.split with h0 | ⟨b, off, rfl, hb, hc⟩
  all_goals
    go_enter Try.func97, Try.ntmps97
    go_wp2_with fail
    go_loop [3] (fun i => ∃ k : Nat, i = .int .i64 k ∧ k ≤ zs.length ∧ (zs.take k).all (fun x => inB x 0 1000000) = true) (fun i => zs.length - (intOf i).toNat)
    case atStart => exact ⟨0, rfl, Nat.zero_le _, by simp⟩
    case round =>
      obtain ⟨k, rfl, hk, ha⟩ := hrel
      have HA := Lib.hid ha
      clear ha
      by_cases hlt : k < zs.length
      · first
          | (exfalso; omega; done)
          | (obtain ⟨x, hx⟩ := get_some hlt
             have hcx := hc.out k x hx
             have HX := Lib.hid hx
             clear hx
             cases hs : inB x 0 1000000
             · have hf := allB_fail (p := fun x => inB x 0 1000000) HX.out hs
               have HR := Lib.hid (show dmB zs = false by unfold dmB allIn; rw [hf]; simp)
               clear hf
               go_wp2_with (go_at_call 98; refine (spec_l01In_c _ _ _ _).mono ?_; rintro e w' ⟨rfl, rfl⟩)
               go_ret
               exact ⟨ret_bool HR.out.symm, rfl⟩
             · go_wp2_with (go_at_call 98; refine (spec_l01In_c _ _ _ _).mono ?_; rintro e w' ⟨rfl, rfl⟩)
               go_round
               case rel => exact ⟨k + 1, by go_num, by omega, by rw [allB_step HX.out, HA.out, hs]; rfl⟩
               case measure => simp [intOf]; omega)
      · have hd := allB_done (p := fun x => inB x 0 1000000) hlt HA.out
        have hz := Lib.hid (show ∀ x ∈ zs, -4000000000 ≤ x ∧ x ≤ 4000000000 from fun x hx => by have := allIn_iff.1 (show allIn zs 0 1000000 = true from hd) x hx; omega)
        cases h1 : inB (zs.length : Int) 1 5
        · have HR := Lib.hid (show dmB zs = false by unfold dmB; rw [h1]; simp)
          clear hd
          go_wp2_with (go_at_call 98; refine (spec_l01In_c _ _ _ _).mono ?_; rintro e w' ⟨rfl, rfl⟩)
          go_ret
          exact ⟨ret_bool HR.out.symm, rfl⟩
        · have HR := Lib.hid (show dmB zs = decide (0 < sumL zs) by unfold dmB; rw [h1, show allIn zs 0 1000000 = true from hd]; simp)
          clear hd
          go_wp2_with (first
            | (go_at_call 98; refine (spec_l01In_c _ _ _ _).mono ?_; rintro e w' ⟨rfl, rfl⟩)
            | (go_at_call 84; refine (spec_l01Sum_c _ _ _ zs _ rfl hm hr hz).mono ?_; rintro e w' ⟨rfl, rfl⟩))
          go_ret
          exact ⟨ret_bool HR.out.symm, rfl⟩
theorem spec_DivideMoney_c (u : Int) (A : Option Addr) (n c : Nat) (ws : List Int) (w : World) (hn : ws.length = n) (hm : n ≤ 1048576) (hr : RI w A ws) :
    Calls Try.prog 24 #[.int .i64 u, .slice A n c] w (LR w (dmV u ws) (dmE u ws)) := by
  subst hn
  cases h1 : dmB ws
  · have HV := Lib.hid (show dmV u ws = [] by simp [dmV, h1])
    have HE := Lib.hid (show dmE u ws = 1 by simp [dmE, h1])
    go_enter Try.func24, Try.ntmps24
    go_wp2_with (go_at_call 97; refine (spec_l30Weights_c _ _ _ ws _ rfl hm hr).mono ?_; rintro e w' ⟨rfl, rfl⟩)
    go_ret2
    rw [HV.out, HE.out]
    exact LR.mk rfl rfl (Nat.zero_le _) (OI.nil _ _ _ _) (Below.refl _ _)
  cases h4 : inB u 0 1000000
  · have HV := Lib.hid (show dmV u ws = [] by simp [dmV, h4])
    have HE := Lib.hid (show dmE u ws = 2 by simp [dmE, h1, h4])
    go_enter Try.func24, Try.ntmps24
    go_wp2_with (first
      | (go_at_call 97; refine (spec_l30Weights_c _ _ _ ws _ rfl hm hr).mono ?_; rintro e w' ⟨rfl, rfl⟩)
      | (go_at_call 98; refine (spec_l01In_c _ _ _ _).mono ?_; rintro e w' ⟨rfl, rfl⟩))
    go_ret2
    rw [HV.out, HE.out]
    exact LR.mk rfl rfl (Nat.zero_le _) (OI.nil _ _ _ _) (Below.refl _ _)
  · have hok := dmB_ok h1 h4
    have hl : 1 ≤ ws.length := by
      have h2 := h1
      unfold dmB at h2
      rw [Bool.and_eq_true, Bool.and_eq_true, inB_iff] at h2
      omega
    have HV := Lib.hid (show dmV u ws = divV u ws by simp [dmV, h1, h4])
    have HE := Lib.hid (show dmE u ws = 0 by simp [dmE, h1, h4])
    go_enter Try.func24, Try.ntmps24
    go_wp2_with (first
      | (go_at_call 97; refine (spec_l30Weights_c _ _ _ ws _ rfl hm hr).mono ?_; rintro e w' ⟨rfl, rfl⟩)
      | (go_at_call 98; refine (spec_l01In_c _ _ _ _).mono ?_; rintro e w' ⟨rfl, rfl⟩))
    refine (spec_l30Divide_c _ _ _ _ ws _ rfl hl hr hok).mono ?_
    rintro e w1 ⟨g, c', rfl, ho, hb⟩
    go_wp2_with fail
    go_ret2
    rw [HV.out, HE.out]
    exact LR.mk rfl (divV_len _ _) hm ho hb
end Go.Proofs.Ythpgkngkmmameaa
namespace Go.Proofs.Ythpgkngkmmameaa
open Go.RowKit
set_option linter.unusedVariables false
def sbV (u k : Int) : List Int := if inB u 0 1000000 && inB k 1 5 then divV u (List.replicate k.toNat 1) else []
def sbE (u k : Int) : Int := if inB u 0 1000000 && inB k 1 5 then 0 else 2
theorem impl_SplitBounty_c (u k : Int) (w : World) : Calls Try.prog 26 #[.int .i64 u, .int .i64 k] w (LR w (sbV u k) (sbE u k)) := by
  cases h1 : inB u 0 1000000
  · have HV := Lib.hid (show sbV u k = [] by simp [sbV, h1])
    have HE := Lib.hid (show sbE u k = 2 by simp [sbE, h1])
    go_enter Try.func26, Try.ntmps26
    go_wp2_with (go_at_call 94; refine (impl_within_c _ _ _ _).mono ?_; rintro e w' ⟨rfl, rfl⟩)
    go_ret2
    rw [HV.out, HE.out]
    exact LR.mk rfl rfl (Nat.zero_le _) (OI.nil _ _ _ _) (Below.refl _ _)
  cases h2 : inB k 1 5
  · have HV := Lib.hid (show sbV u k = [] by simp [sbV, h2])
    have HE := Lib.hid (show sbE u k = 2 by simp [sbE, h2])
    go_enter Try.func26, Try.ntmps26
    go_wp2_with (go_at_call 94; refine (impl_within_c _ _ _ _).mono ?_; rintro e w' ⟨rfl, rfl⟩)
    go_ret2
    rw [HV.out, HE.out]
    exact LR.mk rfl rfl (Nat.zero_le _) (OI.nil _ _ _ _) (Below.refl _ _)
  obtain ⟨m, rfl⟩ : ∃ m : Nat, k = m := ⟨k.toNat, by have := inB_iff.1 h2; omega⟩
  have hk := inB_iff.1 h2
  have hu := inB_iff.1 h1
  have hok := ones_ok (u := u) (n := m) hu.1 (by omega) (by omega) (by omega)
  have HV := Lib.hid (show sbV u m = divV u (List.replicate m 1) by simp [sbV, h1, h2])
  have HE := Lib.hid (show sbE u m = 0 by simp [sbE, h1, h2])
  have hm : m ≤ 1048576 := by omega
  go_enter Try.func26, Try.ntmps26
  go_wp2_with (go_at_call 94; refine (impl_within_c _ _ _ _).mono ?_; rintro e w' ⟨rfl, rfl⟩)
  refine (impl_equalWeights_c m _ hm).mono ?_
  rintro e w1 ⟨g1, rfl, o1, b1⟩
  go_wp2_with fail
  refine (impl_divided_c _ _ _ _ (List.replicate m 1) _ (by simp) (by omega) o1.ri hok).mono ?_
  rintro e w2 ⟨g, rfl, ho, hb⟩
  go_wp2_with fail
  go_ret2
  rw [HV.out, HE.out]
  exact LR.mk rfl (by rw [divV_len]; simp) hm (ho.widen b1.size (Nat.le_refl _)) (below_step b1 hb b1.size)
theorem spec_SplitBounty_c (u k : Int) (w : World) : Calls Try.prog 27 #[.int .i64 u, .int .i64 k] w (LR w (sbV u k) (sbE u k)) := by
  cases h1 : inB u 0 1000000
  · have HV := Lib.hid (show sbV u k = [] by simp [sbV, h1])
    have HE := Lib.hid (show sbE u k = 2 by simp [sbE, h1])
    go_enter Try.func27, Try.ntmps27
    go_wp2_with (go_at_call 98; refine (spec_l01In_c _ _ _ _).mono ?_; rintro e w' ⟨rfl, rfl⟩)
    go_ret2
    rw [HV.out, HE.out]
    exact LR.mk rfl rfl (Nat.zero_le _) (OI.nil _ _ _ _) (Below.refl _ _)
  cases h2 : inB k 1 5
  · have HV := Lib.hid (show sbV u k = [] by simp [sbV, h2])
    have HE := Lib.hid (show sbE u k = 2 by simp [sbE, h2])
    go_enter Try.func27, Try.ntmps27
    go_wp2_with (go_at_call 98; refine (spec_l01In_c _ _ _ _).mono ?_; rintro e w' ⟨rfl, rfl⟩)
    go_ret2
    rw [HV.out, HE.out]
    exact LR.mk rfl rfl (Nat.zero_le _) (OI.nil _ _ _ _) (Below.refl _ _)
  obtain ⟨m, rfl⟩ : ∃ m : Nat, k = m := ⟨k.toNat, by have := inB_iff.1 h2; omega⟩
  have hk := inB_iff.1 h2
  have hu := inB_iff.1 h1
  have hok := ones_ok (u := u) (n := m) hu.1 (by omega) (by omega) (by omega)
  have HV := Lib.hid (show sbV u m = divV u (List.replicate m 1) by simp [sbV, h1, h2])
  have HE := Lib.hid (show sbE u m = 0 by simp [sbE, h1, h2])
  have hm : m ≤ 1048576 := by omega
  go_enter Try.func27, Try.ntmps27
  go_wp2_with (go_at_call 98; refine (spec_l01In_c _ _ _ _).mono ?_; rintro e w' ⟨rfl, rfl⟩)
  refine (spec_l30Ones_c m _ (by omega)).mono ?_
  rintro e w1 ⟨g1, c1, rfl, o1, b1⟩
  go_wp2_with fail
  refine (spec_l30Divide_c _ _ _ _ (List.replicate m 1) _ (by simp) (by omega) o1.oi.ri hok).mono ?_
  rintro e w2 ⟨g, c2, rfl, ho, hb⟩
  go_wp2_with fail
  go_ret2
  rw [HV.out, HE.out]
  exact LR.mk rfl (by rw [divV_len]; simp) hm (ho.widen b1.size (Nat.le_refl _)) (below_step b1 hb b1.size)

def ecV (S P : List Int) : List Int := if prizesB S P = true then divV (sumL P) (List.replicate S.length 1) else []
def ecE (S P : List Int) : Int := if prizesB S P = true then 0 else 1
theorem prizes_sum {S P : List Int} (h : prizesB S P = true) : 0 ≤ sumL P ∧ sumL P ≤ 500000 ∧ 2 ≤ S.length ∧ S.length ≤ 5 ∧ 1 ≤ P.length ∧ P.length ≤ S.length := by
  obtain ⟨h1, h2, h3, h4, -⟩ := prizesB_iff.1 h
  obtain ⟨k1, k2, -⟩ := fieldB_iff.1 h1
  have := sumL_bound (zs := P) (B := 100000) (by omega) (fun x hx => by have := h4 x hx; omega) P.length
  rw [List.take_length] at this
  exact ⟨sumL_nonneg (fun x hx => (h4 x hx).1), by omega, k1, k2, h2, h3⟩
theorem prizes_small {S P : List Int} (h : prizesB S P = true) : Hid (∀ x ∈ P, -4000000000 ≤ x ∧ x ≤ 4000000000) := fun x hx => by
  have := (prizesB_iff.1 h).2.2.2.1 x hx
  omega
theorem impl_EvenChop_c (A : Option Addr) (n c : Nat) (S : List Int) (B : Option Addr) (m d : Nat) (P : List Int) (w : World) (hn : S.length = n) (hm : n ≤ 1048576) (hr : RI w A S) (hn' : P.length = m) (hm' : m ≤ 1048576) (hr' : RI w B P) :
    Calls Try.prog 36 #[.slice A n c, .slice B m d] w (LR w (ecV S P) (ecE S P)) := by
  subst hn
  subst hn'
  cases h1 : prizesB S P
  · have HV := Lib.hid (show ecV S P = [] by simp [ecV, h1])
    have HE := Lib.hid (show ecE S P = 1 by simp [ecE, h1])
    go_enter Try.func36, Try.ntmps36
    go_wp2_with (go_at_call 103; refine (impl_ArePrizes_c _ _ _ _ _ _ S P _ rfl hm hr rfl hm' hr').mono ?_; rintro e w' ⟨rfl, q, rfl⟩)
    go_ret2
    rw [HV.out, HE.out]
    exact LR.mk rfl rfl (Nat.zero_le _) (OI.nil _ _ _ _) (below_drewN (Below.refl _ _) _)
  · have HV := Lib.hid (show ecV S P = divV (sumL P) (List.replicate S.length 1) by simp [ecV, h1])
    have HE := Lib.hid (show ecE S P = 0 by simp [ecE, h1])
    obtain ⟨s0, s1, n0, n1, m0, m1⟩ := prizes_sum h1
    have hz := prizes_small h1
    have hok := ones_ok (u := sumL P) (n := S.length) s0 (by omega) (by omega) (by omega)
    go_enter Try.func36, Try.ntmps36
    go_wp2_with (first
      | (go_at_call 103; refine (impl_ArePrizes_c _ _ _ _ _ _ S P _ rfl hm hr rfl hm' hr').mono ?_; rintro e w' ⟨rfl, q, rfl⟩)
      | (go_at_call 87; refine (impl_sumOf_c _ _ _ P _ rfl hm' (hr'.drewN _) hz).mono ?_; rintro e w' ⟨rfl, rfl⟩))
    refine (impl_equalWeights_c S.length _ hm).mono ?_
    rintro e w1 ⟨g1, rfl, o1, b1⟩
    have b1' := below_step (below_drewN (Below.refl w.heap.size w) q) b1 (Nat.le_refl _)
    go_wp2_with fail
    refine (impl_divided_c _ _ _ _ (List.replicate S.length 1) _ (by simp) (by omega) o1.ri hok).mono ?_
    rintro e w2 ⟨g, rfl, ho, hb⟩
    go_wp2_with fail
    go_ret2
    rw [HV.out, HE.out]
    exact LR.mk rfl (by rw [divV_len]; simp) hm (ho.widen b1'.size (Nat.le_refl _)) (below_step b1' hb b1'.size)
theorem spec_EvenChop_c (A : Option Addr) (n c : Nat) (S : List Int) (B : Option Addr) (m d : Nat) (P : List Int) (w : World) (hn : S.length = n) (hm : n ≤ 1048576) (hr : RI w A S) (hn' : P.length = m) (hm' : m ≤ 1048576) (hr' : RI w B P) :
    Calls Try.prog 37 #[.slice A n c, .slice B m d] w (LR w (ecV S P) (ecE S P)) := by
  subst hn
  subst hn'
  cases h1 : prizesB S P
  · have HV := Lib.hid (show ecV S P = [] by simp [ecV, h1])
    have HE := Lib.hid (show ecE S P = 1 by simp [ecE, h1])
    go_enter Try.func37, Try.ntmps37
    go_wp2_with (go_at_call 104; refine (spec_ArePrizes_c _ _ _ _ _ _ S P _ rfl hm hr rfl hm' hr').mono ?_; rintro e w' ⟨rfl, q, rfl⟩)
    go_ret2
    rw [HV.out, HE.out]
    exact LR.mk rfl rfl (Nat.zero_le _) (OI.nil _ _ _ _) (below_drewN (Below.refl _ _) _)
  · have HV := Lib.hid (show ecV S P = divV (sumL P) (List.replicate S.length 1) by simp [ecV, h1])
    have HE := Lib.hid (show ecE S P = 0 by simp [ecE, h1])
    obtain ⟨s0, s1, n0, n1, m0, m1⟩ := prizes_sum h1
    have hz := prizes_small h1
    have hok := ones_ok (u := sumL P) (n := S.length) s0 (by omega) (by omega) (by omega)
    go_enter Try.func37, Try.ntmps37
    go_wp2_with (first
      | (go_at_call 104; refine (spec_ArePrizes_c _ _ _ _ _ _ S P _ rfl hm hr rfl hm' hr').mono ?_; rintro e w' ⟨rfl, q, rfl⟩)
      | (go_at_call 84; refine (spec_l01Sum_c _ _ _ P _ rfl hm' (hr'.drewN _) hz).mono ?_; rintro e w' ⟨rfl, rfl⟩))
    refine (spec_l30Ones_c S.length _ (by omega)).mono ?_
    rintro e w1 ⟨g1, c1, rfl, o1, b1⟩
    have b1' := below_step (below_drewN (Below.refl w.heap.size w) q) b1 (Nat.le_refl _)
    go_wp2_with fail
    refine (spec_l30Divide_c _ _ _ _ (List.replicate S.length 1) _ (by simp) (by omega) o1.oi.ri hok).mono ?_
    rintro e w2 ⟨g, c2, rfl, ho, hb⟩
    go_wp2_with fail
    go_ret2
    rw [HV.out, HE.out]
    exact LR.mk rfl (by rw [divV_len]; simp) hm (ho.widen b1'.size (Nat.le_refl _)) (below_step b1' hb b1'.size)
end Go.Proofs.Ythpgkngkmmameaa
namespace Go.Proofs.Ythpgkngkmmameaa
open Go.RowKit
set_option linter.unusedVariables false
/-- The block's shape: cells of int64, as many as the capacity. -/
def Shp (w : World) (g c : Nat) : Prop := ∃ cur, w.heap[g]? = some (.cells cur 2 (0, 0)) ∧ cur.size = c ∧ c ≤ maxLen
theorem Shp.set {w : World} {g c : Nat} (h : Shp w g c) (p : Addr) (u : Value) : Shp (w.setCell p u) g c := by
  obtain ⟨cur, h1, h2, h3⟩ := h
  unfold Shp World.setCell
  simp only [Array.getElem?_modify]
  by_cases hp : p.block = g
  · subst hp
    rw [if_pos rfl, h1]
    exact ⟨_, rfl, by split <;> simp [h2], h3⟩
  · rw [if_neg hp]
    exact ⟨cur, h1, h2, h3⟩
theorem Shp.lt {w : World} {g c : Nat} (h : Shp w g c) : g < w.heap.size := by
  obtain ⟨cur, h1, -⟩ := h
  exact (Array.getElem?_eq_some_iff.1 h1).1
theorem Shp.below {w w' : World} {g c : Nat} (h : Shp w g c) (hb : Below w.heap.size w w') : Shp w' g c := by
  have hl := h.lt
  obtain ⟨cur, h1, h2⟩ := h
  exact ⟨cur, (hb.block g hl).trans h1, h2⟩
theorem Shp.of {w : World} {base g n c : Nat} {zs : List Int} (h : Row w base (some ⟨g, 0, none⟩) n c zs) : Shp w g c ∧ n ≤ c := by
  rcases h.2 with ⟨hv, _⟩ | ⟨g', cap, cur, hv, _, hg, h1, h2, h3, _⟩
  · cases hv
  · injection hv with hv e1 e2
    injection hv with hv
    injection hv with hv
    subst hv
    subst e2
    exact ⟨⟨cur, hg, by omega, h2⟩, h1⟩
theorem Shp.row {w : World} {lo hi base g n c : Nat} {zs : List Int} (h : Shp w g c) (ho : OI w lo hi (some ⟨g, 0, none⟩) zs) (hl : zs.length = n) (h0 : 0 < n) (hc : n ≤ c) (hb : base ≤ g) : Row w base (some ⟨g, 0, none⟩) n c zs := by
  obtain ⟨cur, h1, h2, h3⟩ := h
  refine ⟨by simpa using hl, .inr ⟨g, c, cur, rfl, hb, h1, hc, h3, by omega, ?_⟩⟩
  apply List.ext_getElem?
  intro j
  rw [Nat.mul_one]
  by_cases hj : j < n
  · obtain ⟨x, hx⟩ := get_some (zs := zs) (k := j) (by omega)
    have hcell := (ho.cellX hx).1
    rw [Nat.zero_add, World.cell?_of_block (w := w) (w' := w) (a := ⟨g, j, none⟩) rfl] at hcell
    have hcj : cur[j]? = some (.int .i64 x) := by
      simp only [World.cell?, h1] at hcell
      simpa using hcell
    rw [List.getElem?_take_of_lt hj, List.getElem?_map, hx]
    simpa using hcj
  · rw [List.getElem?_eq_none (by simp; omega), List.getElem?_eq_none (by simp; omega)]
/-- A row of the call's own is handed back. -/
def SLR (w : World) (n : Nat) (V : List Int) (e : Ending) (w' : World) : Prop := ∃ g c', e = .returned (.slice (some ⟨g, 0, none⟩) n c') ∧ Row w' w.heap.size (some ⟨g, 0, none⟩) n c' V ∧ Below w.heap.size w w'
/-- A row of the call's own and a code. -/
def LRR (w : World) (V : List Int) (E : Int) (e : Ending) (w' : World) : Prop := ∃ (A : Option Addr) (n c : Nat), e = .returned (.tuple #[.slice A n c, .int .i64 E]) ∧ Hid (V.length = n) ∧ n ≤ 1048576 ∧ Row w' w.heap.size A n c V ∧ Below w.heap.size w w'
theorem LRR.mk {w w' : World} {V : List Int} {E E' : Int} {A : Option Addr} {n c : Nat} (h1 : E' = E) (h2 : V.length = n) (h3 : n ≤ 1048576) (h4 : Row w' w.heap.size A n c V) (h5 : Below w.heap.size w w') : LRR w V E (.returned (.tuple #[.slice A n c, .int .i64 E'])) w' := ⟨A, n, c, by rw [h1], Lib.hid h2, h3, h4, h5⟩
theorem Row.mono {w : World} {base base' : Nat} {A : Option Addr} {n c : Nat} {zs : List Int} (h : Row w base A n c zs) (hb : base' ≤ base) : Row w base' A n c zs := by
  refine ⟨h.1, ?_⟩
  rcases h.2 with a | ⟨g, cap, cur, hv, h1, r⟩
  · exact .inl a
  · exact .inr ⟨g, cap, cur, hv, by omega, r⟩
structure DivSt2 (c : Nat) (w wr : World) (g1 g2 : Nat) (ss rs : List Int) : Prop extends DivSt w wr g1 g2 ss rs where
  sh : Shp wr g1 c
theorem DivSt2.set1 {c : Nat} {w wr : World} {g1 g2 : Nat} {ss rs : List Int} (h : DivSt2 c w wr g1 g2 ss rs) {j : Nat} (hj : j < ss.length) (x : Int) : DivSt2 c w (wr.setCell ⟨g1, j, none⟩ (.int .i64 x)) g1 g2 (ss.set j x) rs := ⟨h.toDivSt.set1 hj x, h.sh.set _ _⟩
theorem DivSt2.set2 {c : Nat} {w wr : World} {g1 g2 : Nat} {ss rs : List Int} (h : DivSt2 c w wr g1 g2 ss rs) {j : Nat} (hj : j < rs.length) (x : Int) : DivSt2 c w (wr.setCell ⟨g2, j, none⟩ (.int .i64 x)) g1 g2 ss (rs.set j x) := ⟨h.toDivSt.set2 hj x, h.sh.set _ _⟩
theorem DivSt2.drewN {c : Nat} {w wr : World} {g1 g2 : Nat} {ss rs : List Int} (h : DivSt2 c w wr g1 g2 ss rs) (q : Nat) : DivSt2 c w (wr.drewN q) g1 g2 ss rs := ⟨h.toDivSt.drewN q, h.sh⟩
set_option maxHeartbeats 2000000 in
theorem spec_l30GiveOut_r (A B : Option Addr) (n c d : Nat) (u L : Int) (zs rs : List Int) (w : World) (hl : zs.length = n) (hl' : rs.length = n) (h1 : 1 ≤ n) (hn1 : n ≤ 1000) (hr : RI w A zs) (hr' : RI w B rs) (hz : ∀ x ∈ zs, 0 ≤ x ∧ x ≤ u) (u1 : u ≤ 10000000) (z1 : L ≤ 100000000000) (z0 : -100000000000 ≤ L) :
    Calls Try.prog 153 #[.slice A n c, .slice B n d, .int .i64 L] w (SLR w n (giveK L.toNat (zs, rs)).1) := by
  obtain ⟨P, hP⟩ : ∃ P, P = (zs, rs) := ⟨_, rfl⟩
  have HB := Lib.hid (show ∀ k : Nat, ∀ x ∈ (giveK k P).1, 0 ≤ x ∧ x ≤ u + k by rw [hP]; exact giveK_bd (p := (zs, rs)) hz (by rw [hl, hl']) (by rw [hl']; omega))
  have HL1 := Lib.hid (show ∀ k : Nat, (giveK k P).1.length = n by intro k; rw [giveK_len1, hP]; exact hl)
  have HL2 := Lib.hid (show ∀ k : Nat, (giveK k P).2.length = n by intro k; rw [giveK_len2, hP]; exact hl')
  have u0 : 0 ≤ u := by
    have hx := List.getElem_mem (l := zs) (n := 0) (by omega)
    have := hz _ hx
    omega
  have Hl := Lib.hid hl
  have Hl' := Lib.hid hl'
  have HP := Lib.hid hP
  clear hl hl' hz hP
  go_enter Try.func153, Try.ntmps153
  go_wp2_with fail
  refine (spec_l01Own_c _ _ _ zs _ Hl.out h1 (by omega) hr).mono ?_
  rintro e w1 ⟨g1, c1, rfl, o1, b1⟩
  go_wp2_with fail
  refine (spec_l01Own_c _ _ _ rs _ Hl'.out h1 (by omega) (hr'.below b1)).mono ?_
  rintro e w2 ⟨g2, c2, rfl, o2, b2⟩
  have hst := Lib.hid (show DivSt2 c1 w w2 g1 g2 (giveK 0 P).1 (giveK 0 P).2 by
    have k1 := o1.oi.lt (by rw [Hl.out]; omega)
    have k2 := o2.oi.lt (by rw [Hl'.out]; omega)
    rw [HP.out]
    have hs1 := b1.size
    exact ⟨⟨by omega, (o1.below b2).oi.exact, o2.oi.exact, below_step b1 b2 hs1, k1.1, by omega⟩, (Shp.of o1).1.below b2⟩)
  have hcn := (Shp.of o1).2
  clear o1 o2 b1 b2
  go_wp2_with fail
  go_loopw [2] (fun l wr => ∃ (j : Nat), l = .int .i64 (L - j) ∧ j ≤ L.toNat ∧ Hid (DivSt2 c1 w wr g1 g2 (giveK j P).1 (giveK j P).2)) (fun l _ => (intOf l).toNat)
  case atStart => exact ⟨0, by simp, Nat.zero_le _, hst⟩
  case round =>
    clear hst
    obtain ⟨j, rfl, hj, hs⟩ := hrel
    by_cases hlt : 0 < L - j
    · have hjb : (j : Int) ≤ 100000000000 := by omega
      have hdj : decide ((j : Int) < L) = true := by simp; omega
      go_wp2_with fail
      obtain ⟨wo, rfl⟩ : ∃ wo : World, wo = wr := ⟨_, rfl⟩
      go_loopw [7, 8] (fun b i wr => ∃ (k m : Nat), b = .int .i64 m ∧ i = .int .i64 (k + 1 : Nat) ∧ k + 1 ≤ n ∧ Hid (m = amaxTo (giveK j P).2 k) ∧ m ≤ k ∧ Hid (DivSt2 c1 w wr g1 g2 (giveK j P).1 (giveK j P).2)) (fun _ i _ => n - (intOf i).toNat)
      case atStart => exact ⟨0, 0, rfl, rfl, h1, Lib.hid rfl, Nat.le_refl _, hs⟩
      case round =>
        clear hs
        obtain ⟨k, m, rfl, rfl, hk, hm, hmk, hs⟩ := hrel
        have b1 : (m : Int) < (n : Int) := by omega
        have b2 : (0 : Int) ≤ (m : Int) := by omega
        by_cases hkn : k + 1 < n
        · obtain ⟨x, hx⟩ := get_some (zs := (giveK j P).2) (k := k + 1) (by rw [HL2.out]; exact hkn)
          obtain ⟨y, hy⟩ := get_some (zs := (giveK j P).2) (k := m) (by rw [HL2.out]; omega)
          obtain ⟨c1, f1⟩ := hs.out.cells2 hx
          obtain ⟨c2, f2⟩ := hs.out.cells2 hy
          have ex : (giveK j P).2.getD (k + 1) 0 = x := by simp [List.getD, hx]
          have ey : (giveK j P).2.getD m 0 = y := by simp [List.getD, hy]
          have b3 : ((k + 1 : Nat) : Int) < (n : Int) := by omega
          have b4 : (0 : Int) ≤ ((k + 1 : Nat) : Int) := by omega
          by_cases hxy : y < x
          · have HM := Lib.hid (show k + 1 = amaxTo (giveK j P).2 (k + 1) by unfold amaxTo; rw [← hm.out, ex, ey, if_pos hxy])
            clear hx hy ex ey
            go_wp2_with fail
            go_quiet (fail)
            go_wp2_with fail
            go_roundw
            case rel => exact ⟨k + 1, k + 1, rfl, by go_num, by omega, HM, Nat.le_refl _, Lib.hid (hs.out.drewN _)⟩
            case measure => simp [intOf]; omega
          · have HM := Lib.hid (show m = amaxTo (giveK j P).2 (k + 1) by unfold amaxTo; rw [← hm.out, ex, ey, if_neg hxy])
            clear hx hy ex ey
            go_wp2_with fail
            go_quiet (fail)
            go_wp2_with fail
            go_roundw
            case rel =>
              have HD := Lib.hid (hs.out.drewN (wr := wr) nq)
              first
                | exact ⟨k + 1, m, rfl, by go_num, by omega, HM, by omega, HD⟩
                | ((repeat apply Exists.intro); refine And.intro ?_ rfl; exact ⟨k + 1, m, rfl, by go_num, by omega, HM, by omega, HD⟩)
            case measure => simp [intOf]; omega
        · have hm2 : m = amaxL (giveK j P).2 := by unfold amaxL; rw [HL2.out, show n - 1 = k by omega]; exact hm.out
          have hmn : m < n := by omega
          obtain ⟨x, hx⟩ : ∃ x, x = (giveK j P).1.getD m 0 := ⟨_, rfl⟩
          have hgx : (giveK j P).1[m]? = some x := by rw [hx]; exact get_getD (by rw [HL1.out]; exact hmn)
          obtain ⟨y, hgy⟩ := get_some (zs := (giveK j P).2) (k := m) (by rw [HL2.out]; exact hmn)
          obtain ⟨x0, x1⟩ := HB.out j x (List.mem_of_getElem? hgx)
          obtain ⟨c1, f1⟩ := hs.out.cells1 hgx
          obtain ⟨c2, f2⟩ := hs.out.cells2 hgy
          have hne : ¬ g1 = g2 := hs.out.ne
          have hne' : ¬ g2 = g1 := fun h => hne h.symm
          have DS := Lib.hid ((hs.out.set1 (j := m) (by rw [HL1.out]; exact hmn) (x + 1)).set2 (j := m) (by rw [HL2.out]; exact hmn) (-1))
          have DE := Lib.hid (show giveK (j + 1) P = ((giveK j P).1.set m (x + 1), (giveK j P).2.set m (-1)) by rw [hx, hm2]; rfl)
          clear hm2 hm hx hgx hgy hs
          go_wp2_with fail
          go_roundw
          case rel =>
            refine ⟨j + 1, by go_num, by omega, Lib.hid ?_⟩
            rw [DE.out]
            exact DS.out
          case measure => simp [intOf]; omega
    · have hje : j = L.toNat := by omega
      have hs2 := hs.out.s
      have hlt := OI.lt hs2 (by rw [HL1.out]; omega)
      have HO := Lib.hid (hs.out.sh.row (base := w.heap.size) hs2 (HL1.out j) (by omega) hcn hs.out.l1)
      have HBl := Lib.hid hs.out.below
      have HE := Lib.hid hje
      clear hje hs2 hs hlt
      go_wp2_with fail
      go_ret
      refine ⟨_, _, rfl, ?_, HBl.out⟩
      have := HO.out
      rw [HE.out, HP.out] at this
      exact this
set_option maxHeartbeats 2000000 in
theorem spec_l30Divide_r (A : Option Addr) (n c : Nat) (u : Int) (zs : List Int) (w : World) (hn : zs.length = n) (h1 : 1 ≤ n) (hr : RI w A zs) (hok : DivOk u zs) :
    Calls Try.prog 99 #[.int .i64 u, .slice A n c] w (SLR w n (divV u zs)) := by
  subst hn
  have hn1 := hok.n1
  have u0 := hok.u0
  have u1 := hok.u1
  have t0 := hok.t0
  have t1 := hok.t1
  have hz := Lib.hid (show ∀ x ∈ zs, -4000000000 ≤ x ∧ x ≤ 4000000000 from fun x hx => by have := hok.w x hx; omega)
  rcases hr.split with h0 | ⟨b, off, rfl, hb, hc⟩
  · omega
  have hm : zs.length ≤ 1048576 := by omega
  go_enter Try.func99, Try.ntmps99
  go_wp2_with (go_at_call 84; refine (spec_l01Sum_c _ _ _ zs _ rfl hm hr hz).mono ?_; rintro e w' ⟨rfl, rfl⟩)
  have hst := Lib.hid (RowPair.new w)
  go_loopw [6, 7, 8] (fun s r i wr => ∃ (k g1 c1 g2 c2 : Nat), s = .slice (some ⟨g1, 0, none⟩) k c1 ∧ r = .slice (some ⟨g2, 0, none⟩) k c2 ∧ i = .int .i64 k ∧ k ≤ zs.length ∧ Hid (RowPair w wr g1 k c1 ((floorL u (sumL zs) zs).take k) g2 k c2 ((restL u (sumL zs) zs).take k))) (fun _ _ i _ => zs.length - (intOf i).toNat)
  case atStart => exact ⟨0, _, _, _, _, rfl, rfl, rfl, Nat.zero_le _, hst⟩
  case round =>
    clear hst
    obtain ⟨k, g1, c1, g2, c2, rfl, rfl, rfl, hk, hp⟩ := hrel
    have hsz := hp.out.below.size
    by_cases hlt : k < zs.length
    · obtain ⟨x, hx⟩ := get_some hlt
      obtain ⟨p0, p1, q0, q1, r0, r1⟩ := hok.at_ (List.mem_of_getElem? hx)
      have hcx := (hp.out.below.cell (p := ⟨b, off + k, none⟩) hb).trans (hc.out k x hx)
      have e1 : IntKind.i64.wrap (u * x) = u * x := by rw [IntKind.wrap_i64]; omega
      have e2 : (u * x).tdiv (sumL zs) = u * x / sumL zs := Int.tdiv_eq_ediv_of_nonneg p0
      have e3 : (u * x).tmod (sumL zs) = u * x % sumL zs := Int.tmod_eq_emod_of_nonneg p0
      have b1 : (k : Int) < (zs.length : Int) := by omega
      have b2 : (0 : Int) ≤ (k : Int) := by omega
      have b3 : ¬ sumL zs = 0 := by omega
      have H1 := Lib.hid (show (floorL u (sumL zs) zs).take (k + 1) = (floorL u (sumL zs) zs).take k ++ [u * x / sumL zs] by rw [List.take_add_one, floor_get (u := u) (T := sumL zs) hx]; rfl)
      have H2 := Lib.hid (show (restL u (sumL zs) zs).take (k + 1) = (restL u (sumL zs) zs).take k ++ [u * x % sumL zs] by rw [List.take_add_one, rest_get (u := u) (T := sumL zs) hx]; rfl)
      have hp' := hp.out
      have H0 := Lib.hid hx
      clear hx
      have tok : True := trivial
      go_wp2_with (first
        | (at_builtin; have _t := tok; refine wpList_pair1 rfl _ _ rfl (hp'.alloc _) rfl wr.heap.size 1 (u * x / sumL zs) rfl (by simp) (by omega) ?_; intro g3 c3 w3 hp3; have hcx3 := (hp3.below.cell (p := ⟨b, off + k, none⟩) hb).trans (hc.out k x H0.out); clear tok)
        | (at_builtin; refine wpList_pair2 rfl _ _ rfl (hp3.alloc _) rfl w3.heap.size 1 (u * x % sumL zs) rfl (by simp) (by omega) ?_; intro g4 c4 w4 hp4))
      go_roundw
      case rel => exact ⟨k + 1, g3, c3, g4, c4, rfl, rfl, by go_num, by omega, Lib.hid (by rw [H1.out, H2.out]; exact hp4)⟩
      case measure => simp [intOf]; omega
    · have hp2 := hp.out
      obtain ⟨s0, s1⟩ := hok.sum zs.length
      have hke : k = zs.length := by omega
      rw [hke, List.take_of_length_le (by rw [floor_len]; omega), List.take_of_length_le (by rw [rest_len]; omega)] at hp2
      rw [List.take_of_length_le (by rw [floor_len]; omega)] at s0 s1
      have z0 : -100000000000 ≤ leftD u zs := by unfold leftD; rw [sumD_sumL, sumD_sumL]; omega
      have z1 : leftD u zs ≤ 100000000000 := by unfold leftD; rw [sumD_sumL, sumD_sumL]; omega
      have HL := Lib.hid (show u - sumL (floorL u (sumL zs) zs) = leftD u zs from rfl)
      have HF := Lib.hid (show ∀ x ∈ floorL u (sumL zs) zs, -4000000000 ≤ x ∧ x ≤ 4000000000 from fun x hx => by have := hok.floor x hx; omega)
      have HO1 := Lib.hid hp2.r1.oi.ri
      have HO2 := Lib.hid hp2.r2.oi.ri
      have HB := Lib.hid hp2.below
      have HF2 := Lib.hid hok.floor
      have hfl : (floorL u (sumL zs) zs).length = zs.length := floor_len _ _ _
      have hrl : (restL u (sumL zs) zs).length = zs.length := rest_len _ _ _
      have HV := Lib.hid (show (giveK (leftD u zs).toNat (floorL u (sumL zs) zs, restL u (sumL zs) zs)).1 = divV u zs from rfl)
      have HF1 := Lib.hid hfl
      have HR1 := Lib.hid hrl
      subst hke
      clear hp hp2 hfl hrl hc
      go_wp2_with (go_at_call 84; refine (spec_l01Sum_c _ _ _ (floorL u (sumL zs) zs) _ HF1.out hm HO1.out HF).mono ?_; rintro e w' ⟨rfl, rfl⟩)
      refine (spec_l30GiveOut_r _ _ _ _ _ u _ (floorL u (sumL zs) zs) (restL u (sumL zs) zs) _ HF1.out HR1.out h1 hn1 HO1.out HO2.out HF2.out u1 (by rw [HL.out]; exact z1) (by rw [HL.out]; exact z0)).mono ?_
      rintro e w5 ⟨g5, c5, rfl, o5, b5⟩
      rw [HL.out, HV.out] at o5
      go_wp2_with fail
      go_ret
      exact ⟨g5, c5, rfl, o5.mono hsz, below_step HB.out b5 hsz⟩
theorem spec_EvenChop_r (A : Option Addr) (n c : Nat) (S : List Int) (B : Option Addr) (m d : Nat) (P : List Int) (w : World) (hn : S.length = n) (hm : n ≤ 1048576) (hr : RI w A S) (hn' : P.length = m) (hm' : m ≤ 1048576) (hr' : RI w B P) :
    Calls Try.prog 37 #[.slice A n c, .slice B m d] w (LRR w (ecV S P) (ecE S P)) := by
  subst hn
  subst hn'
  cases h1 : prizesB S P
  · have HV := Lib.hid (show ecV S P = [] by simp [ecV, h1])
    have HE := Lib.hid (show ecE S P = 1 by simp [ecE, h1])
    go_enter Try.func37, Try.ntmps37
    go_wp2_with (go_at_call 104; refine (spec_ArePrizes_c _ _ _ _ _ _ S P _ rfl hm hr rfl hm' hr').mono ?_; rintro e w' ⟨rfl, q, rfl⟩)
    go_ret2
    rw [HV.out, HE.out]
    exact LRR.mk rfl rfl (Nat.zero_le _) (Row.nil _ _) (below_drewN (Below.refl _ _) _)
  · have HV := Lib.hid (show ecV S P = divV (sumL P) (List.replicate S.length 1) by simp [ecV, h1])
    have HE := Lib.hid (show ecE S P = 0 by simp [ecE, h1])
    obtain ⟨s0, s1, n0, n1, m0, m1⟩ := prizes_sum h1
    have hz := prizes_small h1
    have hok := ones_ok (u := sumL P) (n := S.length) s0 (by omega) (by omega) (by omega)
    go_enter Try.func37, Try.ntmps37
    go_wp2_with (first
      | (go_at_call 104; refine (spec_ArePrizes_c _ _ _ _ _ _ S P _ rfl hm hr rfl hm' hr').mono ?_; rintro e w' ⟨rfl, q, rfl⟩)
      | (go_at_call 84; refine (spec_l01Sum_c _ _ _ P _ rfl hm' (hr'.drewN _) hz).mono ?_; rintro e w' ⟨rfl, rfl⟩))
    refine (spec_l30Ones_c S.length _ (by omega)).mono ?_
    rintro e w1 ⟨g1, c1, rfl, o1, b1⟩
    have b1' := below_step (below_drewN (Below.refl w.heap.size w) q) b1 (Nat.le_refl _)
    go_wp2_with fail
    refine (spec_l30Divide_r _ _ _ _ (List.replicate S.length 1) _ (by simp) (by omega) o1.oi.ri hok).mono ?_
    rintro e w2 ⟨g, c2, rfl, ho, hb⟩
    go_wp2_with fail
    go_ret2
    rw [HV.out, HE.out]
    exact LRR.mk rfl (by rw [divV_len]; simp) hm (ho.mono b1'.size) (below_step b1' hb b1'.size)
end Go.Proofs.Ythpgkngkmmameaa
namespace Go.Proofs.Ythpgkngkmmameaa
open Go.RowKit
set_option linter.unusedVariables false
structure ChSt2 (c : Nat) (w wr : World) (g1 g2 : Nat) (ss : List Int) (rs : List (Int × Int)) : Prop extends ChSt w wr g1 g2 ss rs where
  sh : Shp wr g1 c
section
variable {c : Nat} {w wr w' : World} {g1 g2 : Nat} {ss : List Int} {rs : List (Int × Int)}
theorem ChSt2.set1 (h : ChSt2 c w wr g1 g2 ss rs) {j : Nat} (hj : j < ss.length) (x : Int) : ChSt2 c w (wr.setCell ⟨g1, j, none⟩ (.int .i64 x)) g1 g2 (ss.set j x) rs := ⟨h.toChSt.set1 hj x, h.sh.set _ _⟩
theorem ChSt2.set2 (h : ChSt2 c w wr g1 g2 ss rs) {j : Nat} (hj : j < rs.length) (x y : Int) : ChSt2 c w ((wr.setCell ⟨g2, j * 2, none⟩ (.int .i64 x)).setCell ⟨g2, j * 2 + 1, none⟩ (.int .i64 y)) g1 g2 ss (rs.set j (x, y)) := ⟨h.toChSt.set2 hj x y, (h.sh.set _ _).set _ _⟩
theorem ChSt2.step (h : ChSt2 c w wr g1 g2 ss rs) (hb : Below wr.heap.size wr w') : ChSt2 c w w' g1 g2 ss rs := ⟨h.toChSt.step hb, h.sh.below hb⟩
theorem PairQ.st2 {A1 A2 : Option Addr} {n1 c1 n2 c2 : Nat} (h : PairQ w wr (some ⟨g1, 0, none⟩) n1 c1 ss (some ⟨g2, 0, none⟩) n2 c2 rs) (h1 : 0 < n1) (h2 : 0 < n2) : ChSt2 c1 w wr g1 g2 ss rs := ⟨h.st h1 h2, (Shp.of h.r1).1⟩
end
set_option maxRecDepth 100000 in
set_option maxHeartbeats 8000000 in
theorem spec_ModelChop_r (A : Option Addr) (n c : Nat) (S : List Int) (B : Option Addr) (m d : Nat) (P : List Int) (w : World) (hn : S.length = n) (hm : n ≤ 1048576) (hr : RI w A S) (hn' : P.length = m) (hm' : m ≤ 1048576) (hr' : RI w B P) (hmd : m ≤ d) :
    Calls Try.prog 13 #[.slice A n c, .slice B m d] w (LRR w (mcV S P) (feE S P)) := by
  have HN := Lib.hid hn
  have HN' := Lib.hid hn'
  clear hn hn'
  by_cases hE : feE S P = 0
  · obtain ⟨es, hok⟩ := ch_ok hE
    have n2 := hok.n1
    have n5 := hok.n2
    have sp := hok.sp
    have HE := Lib.hid hE
    have HL := Lib.hid hok.e
    have HLen := Lib.hid (show es.length = n by rw [hok.len]; exact HN.out)
    rw [HN.out] at n2 n5
    have HV := Lib.hid (show mcV S P = (giveQ (sumL P - sumL (flQ es)).toNat (flQ es, rsQ es)).1 by unfold mcV mcL; rw [if_pos HE.out, HL.out])
    have HF := Lib.hid (flQ_bd hok.q)
    have HR := Lib.hid (rsQ_sm hok.q)
    have HQ := Lib.hid hok.q
    have HBP := hok.bp
    clear hE hok
    go_enter Try.func13, Try.ntmps13
    go_wp2_with fail
    refine (spec_FieldEquities_c A n c S B m d P _ HN.out hm hr HN'.out hm' hr' hmd).mono ?_
    rintro e w1 ⟨G, g1, c1, rfl, hl1, hm1, ho1, b1⟩
    rw [HE.out]
    rw [HL.out] at hl1 ho1
    obtain rfl : g1 = n := by have := hl1.out; have := HLen.out; omega
    have B1 := Lib.hid b1
    have HRP := Lib.hid (hr'.below b1)
    rcases ho1.ri.split with hz | ⟨ge, rfl, hge, hce⟩
    · exfalso; have := HLen.out; omega
    clear b1 ho1 hl1 hr'
    go_wp2_with fail
    have PQ := Lib.hid (PairQ.new w1)
    obtain ⟨L, hL⟩ : ∃ L, sumL P - sumL (flQ es) = L := ⟨_, rfl⟩
    rw [hL] at HV
    go_loopw [8, 9, 10] (fun s t i wr => ∃ (k c2 c3 : Nat) (A1 A2 : Option Addr), s = .slice A1 k c2 ∧ t = .slice A2 k c3 ∧ i = .int .i64 k ∧ k ≤ g1 ∧ Hid (PairQ w1 wr A1 k c2 ((flQ es).take k) A2 k c3 ((rsQ es).take k)) ∧ Hid (0 < k → ∃ h1 h2, A1 = some ⟨h1, 0, none⟩ ∧ A2 = some ⟨h2, 0, none⟩)) (fun _ _ i _ => g1 - (intOf i).toNat)
    case atStart => exact ⟨0, _, _, _, _, rfl, rfl, rfl, Nat.zero_le _, PQ, Lib.hid (fun h => absurd h (Nat.lt_irrefl _))⟩
    case round =>
      clear PQ
      obtain ⟨k, c2, c3, A1, A2, rfl, rfl, rfl, hk, hpq, haa⟩ := hrel
      by_cases hlt : k < g1
      · obtain ⟨x, y, hxy⟩ := get_q (qs := es) (k := k) (by rw [HLen.out]; exact hlt)
        obtain ⟨x0, hsm⟩ := HQ.out (x, y) (List.mem_of_getElem? hxy)
        have x1 : x ≤ 1000000000 := hsm.n1
        have y0 : 1 ≤ y := hsm.d0
        have y1 : y ≤ 1000000000 := hsm.d1
        have x0' : 0 ≤ x := x0
        have e1 : x.tdiv y = x / y := Int.tdiv_eq_ediv_of_nonneg x0'
        have e2 : x.tmod y = x % y := Int.tmod_eq_emod_of_nonneg x0'
        have e3 : ¬ y = 0 := by omega
        have q0 : 0 ≤ x / y := Int.ediv_nonneg x0' (by omega)
        have q1 : x / y ≤ x := Int.ediv_le_self _ x0'
        have e4 : IntKind.i64.wrap (x / y) = x / y := IntWalk.i64_in _ (by omega)
        have z0 : 0 ≤ x % y := Int.emod_nonneg x e3
        have z1 : x % y < y := Int.emod_lt_of_pos x (by omega)
        have i1 : (k : Int) < (g1 : Int) := by omega
        have i2 : (0 : Int) ≤ (k : Int) := by omega
        obtain ⟨p0, p1⟩ := hce.out k x y hxy
        have H1 := Lib.hid (show (flQ es).take (k + 1) = (flQ es).take k ++ [x / y] by rw [List.take_add_one, flQ_get hxy]; rfl)
        have H2 := Lib.hid (show (rsQ es).take (k + 1) = (rsQ es).take k ++ [(x % y, y)] by rw [List.take_add_one, rsQ_get hxy]; rfl)
        have c0 := (hpq.out.below.cell (p := ⟨ge, k * 2, none⟩) hge).trans p0
        have c1 := (hpq.out.below.cell (p := ⟨ge, k * 2 + 1, none⟩) hge).trans p1
        have P0 := Lib.hid p0
        have P1 := Lib.hid p1
        have HE1 := Lib.hid e1
        have HE2 := Lib.hid e2
        have k5 : k ≤ 10 := by omega
        clear hxy p0 p1 hsm x0 e2 haa
        go_wp2_with fail
        go_region_law ((refine step_pairA (by rfl) _ _ (by rfl) (PairQ.alloc (PairQ.drew hpq.out) _) (by rfl) wr.heap.size 1 (x / y) (by rfl) (by simp) (by omega) ?_; intro h1 d1 w4 hp4))
        all_goals
          have HP4 := Lib.hid hp4
          have c0 := (HP4.out.below.cell (p := ⟨ge, k * 2, none⟩) hge).trans P0.out
          have c1 := (HP4.out.below.cell (p := ⟨ge, k * 2 + 1, none⟩) hge).trans P1.out
          have e2 := HE2.out
          clear hp4 e1 e4
          go_wp2_with fail
          go_region_law ((refine step_pairB (by rfl) _ _ (by rfl) (PairQ.alloc (PairQ.drew HP4.out) _) (by rfl) w4.heap.size 1 (x % y) y (by rfl) (by simp) (by simp) (by omega) ?_; intro h2 d2 w5 hp5))
          all_goals
            have HP5 := Lib.hid hp5
            clear hp5 e2 c0 c1
            go_wp2_with fail
            go_roundw
            case rel => exact ⟨k + 1, d1, d2, _, _, rfl, rfl, by go_num, by omega, Lib.hid (by rw [H1.out, H2.out]; exact HP5.out), Lib.hid (fun _ => ⟨h1, h2, rfl, rfl⟩)⟩
            case measure => simp [intOf]; omega
      · obtain rfl : k = g1 := by omega
        obtain ⟨G1, G2, rfl, rfl⟩ := haa.out (by omega)
        have C0 := hpq.out.st2 (A1 := none) (A2 := none) (by omega) (by omega)
        have hcn := (Shp.of hpq.out.r1).2
        rw [List.take_of_length_le (by rw [flQ_len, HLen.out]; exact Nat.le_refl _), List.take_of_length_le (by rw [rsQ_len, HLen.out]; exact Nat.le_refl _)] at C0
        have RP := Lib.hid (HRP.out.below C0.below)
        obtain ⟨F, hF⟩ : ∃ F, flQ es = F := ⟨_, rfl⟩
        obtain ⟨R, hR⟩ : ∃ R, rsQ es = R := ⟨_, rfl⟩
        have LF := Lib.hid (show F.length = k by rw [← hF, flQ_len]; exact HLen.out)
        have LRh := Lib.hid (show R.length = k by rw [← hR, rsQ_len]; exact HLen.out)
        rw [hF] at C0 HF hL HV
        rw [hR] at C0 HR HV
        have HFS := Lib.hid (show ∀ x ∈ F, -4000000000 ≤ x ∧ x ≤ 4000000000 from fun x hx => by have := HF.out x hx; omega)
        have sb := sumL_bound (zs := F) (B := 1000000000) (by omega) (fun x hx => by have := HF.out x hx; omega) k
        rw [List.take_of_length_le (by rw [LF.out]; exact Nat.le_refl _)] at sb
        have sb0 : -5000000000 ≤ sumL F := by omega
        have sb1 : sumL F ≤ 5000000000 := by omega
        have HC := Lib.hid C0
        have GL := Lib.hid (fun j => giveQ_len j (F, R))
        have GS := Lib.hid (giveQ_sm (s := (F, R)) HR.out)
        have GB := Lib.hid (giveQ_bd (s := (F, R)) (B := 1000000000) (by omega) HF.out)
        clear C0 hpq haa sb hF hR HR HF
        obtain ⟨w4, rfl⟩ : ∃ w4 : World, w4 = wr := ⟨_, rfl⟩
        go_wp2_with (go_at_call 84; first
          | ((with_reducible refine (spec_l01Sum_c _ _ _ P _ HN'.out hm' RP.out HBP).mono ?_); rintro e w' ⟨rfl, rfl⟩)
          | ((with_reducible refine (spec_l01Sum_c _ _ _ F _ LF.out (by omega) HC.out.s.ri HFS).mono ?_); rintro e w' ⟨rfl, rfl⟩))
        have hl0 : -5000000000 ≤ L := by omega
        have hl1 : L ≤ 6000000000 := by omega
        clear hL sb0 sb1
        go_loopw [11] (fun l wr => ∃ j : Nat, l = .int .i64 (L - j) ∧ j ≤ L.toNat ∧ Hid (ChSt2 c2 w1 wr G1 G2 (giveQ j (F, R)).1 (giveQ j (F, R)).2)) (fun l _ => (intOf l).toNat)
        case atStart => exact ⟨0, by simp, Nat.zero_le _, HC⟩
        case round =>
          clear HC
          obtain ⟨j, rfl, hj, hcs⟩ := hrel
          by_cases hlt2 : 0 < L - j
          · have dL : decide ((j : Int) < L) = true := by simp; omega
            obtain ⟨rs, hrs⟩ : ∃ rs, (giveQ j (F, R)).2 = rs := ⟨_, rfl⟩
            obtain ⟨ss, hss⟩ : ∃ ss, (giveQ j (F, R)).1 = ss := ⟨_, rfl⟩
            have LRS := Lib.hid (show rs.length = k by rw [← hrs, (GL.out j).2]; exact LRh.out)
            have LSS := Lib.hid (show ss.length = k by rw [← hss, (GL.out j).1]; exact LF.out)
            have SM := Lib.hid (show ∀ q ∈ rs, Sm q.1 q.2 by rw [← hrs]; exact GS.out j)
            have BD := Lib.hid (show ∀ x ∈ ss, 0 ≤ x ∧ x ≤ 1000000000 + (j : Int) by rw [← hss]; exact GB.out j)
            have ST := Lib.hid (show ∀ (b : Nat) (x : Int), maxQ rs k = b → ss[b]? = some x → giveQ (j + 1) (F, R) = (ss.set b (x + 1), rs.set b (-1, 1)) by
              intro b x hb hx
              rw [← hrs] at hb
              rw [← hss] at hx
              have := giveQ_step (s := (F, R)) (k := j) (b := b) (x := x) (by rw [← hb, LRh.out]) hx
              rw [this, hss, hrs])
            rw [hrs, hss] at hcs
            clear hrs hss
            obtain ⟨w5, rfl⟩ : ∃ w5 : World, w5 = wr := ⟨_, rfl⟩
            obtain ⟨zz1, zz2⟩ : G1 < w5.heap.size ∧ G2 < w5.heap.size := ⟨hcs.out.z1, hcs.out.z2⟩
            go_wp2_with fail
            go_loopw [12, 13] (fun t u wr => ∃ i : Nat, t = .int .i64 (maxQ rs i : Nat) ∧ u = .int .i64 i ∧ 1 ≤ i ∧ i ≤ k ∧ Hid (Below w5.heap.size w5 wr)) (fun _ u _ => k - (intOf u).toNat)
            case atStart => exact ⟨1, by rw [maxQ_one]; rfl, rfl, Nat.le_refl _, by omega, Lib.hid (Below.refl _ _)⟩
            case round =>
              obtain ⟨i, rfl, rfl, hi1, hik, hbw⟩ := hrel
              by_cases hlt3 : i < k
              · obtain ⟨v, hv⟩ : ∃ v, maxQ rs i = v := ⟨_, rfl⟩
                have HB := Lib.hid hv
                have hvl : v < k := by rw [← hv]; exact maxQ_lt rs hik (by omega)
                rw [hv]
                clear hv
                have i1 : (i : Int) < (k : Int) := by omega
                have i2 : (0 : Int) ≤ (i : Int) := by omega
                have i3 : (v : Int) < (k : Int) := by omega
                have i4 : (0 : Int) ≤ (v : Int) := by omega
                obtain ⟨x, y, hxy⟩ := get_q (qs := rs) (k := i) (by rw [LRS.out]; exact hlt3)
                obtain ⟨x', y', hxy'⟩ := get_q (qs := rs) (k := v) (by rw [LRS.out]; exact hvl)
                have S1 := Lib.hid (SM.out (x, y) (List.mem_of_getElem? hxy))
                have S2 := Lib.hid (SM.out (x', y') (List.mem_of_getElem? hxy'))
                have HBS := Lib.hid (show maxQ rs (i + 1) = if 0 < cmpI (x * y') (x' * y) then i else v by
                  show (if 0 < cmpI ((getQ rs i).1 * (getQ rs (maxQ rs i)).2) ((getQ rs (maxQ rs i)).1 * (getQ rs i).2) then i else maxQ rs i) = _
                  rw [HB.out, getQ_some hxy, getQ_some hxy'])
                have CW := Lib.hid (hcs.out.step hbw.out)
                obtain ⟨c0, c3, -, -⟩ := CW.out.cells2 hxy
                obtain ⟨c4, c5, -, -⟩ := CW.out.cells2 hxy'
                clear hxy hxy'
                go_wp2_with fail
                go_still_tail 8, (by kernel_rfl)
                change wpList _ _ _ _ _ (World.drew _)
                go_wp2_with fail
                refine (spec_l01Compare_c _ _ _ _ _ S1.out S2.out).mono ?_
                rintro e w3 ⟨rfl, b3⟩
                have B3 := Lib.hid (below_step hbw.out.drew b3 hbw.out.drew.size)
                clear b3 c0 c3 c4 c5
                obtain ⟨cv, hcv⟩ : ∃ cv, cmpI (x * y') (x' * y) = cv := ⟨_, rfl⟩
                rw [hcv] at HBS
                rw [hcv]
                clear hcv
                by_cases hc : 0 < cv
                · have HS2 := Lib.hid (show maxQ rs (i + 1) = i by rw [HBS.out, if_pos hc])
                  go_wp2_with fail
                  go_roundw
                  case rel => exact ⟨i + 1, by rw [HS2.out], by go_num, by omega, by omega, B3⟩
                  case measure => simp [intOf]; omega
                · have HS2 := Lib.hid (show maxQ rs (i + 1) = v by rw [HBS.out, if_neg hc])
                  go_wp2_with fail
                  go_roundw
                  case rel => exact ⟨i + 1, by rw [HS2.out], by go_num, by omega, by omega, B3⟩
                  case measure => simp [intOf]; omega
              · obtain rfl : i = k := by omega
                obtain ⟨b, hb⟩ : ∃ b, maxQ rs i = b := ⟨_, rfl⟩
                have hbl : b < i := by rw [← hb]; exact maxQ_lt rs (Nat.le_refl _) (by omega)
                obtain ⟨x, hx⟩ := get_some (zs := ss) (k := b) (by rw [LSS.out]; exact hbl)
                obtain ⟨y, y', hy⟩ := get_q (qs := rs) (k := b) (by rw [LRS.out]; exact hbl)
                obtain ⟨x0, x1⟩ := BD.out x (List.mem_of_getElem? hx)
                have HST := Lib.hid (ST.out b x hb hx)
                have CW := Lib.hid (hcs.out.step hbw.out)
                obtain ⟨c0, c1⟩ := CW.out.cells1 hx
                have C1 := Lib.hid (CW.out.set1 (j := b) (by rw [LSS.out]; exact hbl) (x + 1))
                obtain ⟨r0, r1, r2, r3⟩ := C1.out.cells2 hy
                have C2 := Lib.hid (C1.out.set2 (j := b) (by rw [LRS.out]; exact hbl) (-1) 1)
                have i1 : (b : Int) < (i : Int) := by omega
                have i2 : (0 : Int) ≤ (b : Int) := by omega
                have jb : (j : Int) ≤ 6000000000 := by omega
                rw [hb]
                clear hb hx hy
                go_wp2_with fail
                go_roundw
                case rel => exact ⟨j + 1, by go_num, by omega, by rw [HST.out]; exact C2⟩
                case measure => simp [intOf]; omega
          · have hje : j = L.toNat := by omega
            have HV2 := Lib.hid (show mcV S P = (giveQ j (F, R)).1 by rw [HV.out, hje])
            have HLl := Lib.hid (show (giveQ j (F, R)).1.length = k by rw [(GL.out j).1]; exact LF.out)
            have hz := hcs.out.z1
            have hB := hcs.out.below
            have hw1 := B1.out.size
            clear hje
            go_wp2_with fail
            go_ret2
            rw [HV2.out, HE.out]
            exact LRR.mk rfl HLl.out (by omega) (hcs.out.sh.row hcs.out.s HLl.out (by omega) hcn (by have := hcs.out.l1; omega)) (below_step B1.out hB B1.out.size)
  · have HV := Lib.hid (show mcV S P = [] by unfold mcV; rw [if_neg hE])
    obtain ⟨E, hE2⟩ : ∃ E, feE S P = E := ⟨_, rfl⟩
    rw [hE2] at hE
    have HE := Lib.hid hE2
    have hB : (E == 0) = false := by simp [hE]
    have hB2 : (E != 0) = true := by simp [hE]
    rw [HE.out]
    clear hE2
    go_enter Try.func13, Try.ntmps13
    go_wp2_with fail
    refine (spec_FieldEquities_c A n c S B m d P _ HN.out hm hr HN'.out hm' hr' hmd).mono ?_
    rintro e w1 ⟨G, g1, c1, rfl, hl1, hm1, ho1, b1⟩
    rw [HE.out]
    go_wp2_with fail
    go_ret2
    rw [HV.out]
    exact LRR.mk rfl rfl (Nat.zero_le _) (Row.nil _ _) b1
end Go.Proofs.Ythpgkngkmmameaa
namespace Go.Proofs.Ythpgkngkmmameaa
open Go.RowKit
set_option linter.unusedVariables false
theorem divV_bd {u : Int} {ws : List Int} (h : DivOk u ws) (hl : 0 < ws.length) : ∀ x ∈ divV u ws, 0 ≤ x ∧ x ≤ 1000000000000 := by
  intro x hx
  have hb := giveK_bd (p := (floorL u (sumL ws) ws, restL u (sumL ws) ws)) h.floor (by rw [floor_len, rest_len]) (by rw [rest_len]; exact hl) (leftD u ws).toNat x hx
  have hu := h.u1
  have := h.sum ws.length
  rw [List.take_of_length_le (by rw [floor_len]; omega)] at this
  have e : leftD u ws = u - sumL (floorL u (sumL ws) ws) := rfl
  have hu0 := h.u0
  omega
theorem divV_sum {u : Int} {ws : List Int} (h : DivOk u ws) : sumL (divV u ws) = u := by
  have := (div_law h.u0 (fun x hx => (h.w x hx).1) (by have := h.t0; rw [sumD_sumL]; omega)).1
  rw [← sumD_sumL]; exact this
def spB (P : List Int) : Bool := inB (P.length : Int) 1 5 && allIn P 0 100000
def spV (P : List Int) (s : Int) : List Int := if spB P && inB s 0 (sumL P) then (divV (sumL P - s) (List.replicate P.length 1)).set 0 ((divV (sumL P - s) (List.replicate P.length 1)).getD 0 0 + s) else []
def spE (P : List Int) (s : Int) : Int := if spB P = true then (if inB s 0 (sumL P) = true then 0 else 2) else 1
theorem spB_sum {P : List Int} (h : spB P = true) : 0 ≤ sumL P ∧ sumL P ≤ 500000 ∧ 1 ≤ P.length ∧ P.length ≤ 5 := by
  unfold spB at h
  rw [Bool.and_eq_true, inB_iff, allIn_iff] at h
  have := sumL_bound (zs := P) (B := 100000) (by omega) (fun x hx => by have := h.2 x hx; omega) P.length
  rw [List.take_length] at this
  exact ⟨sumL_nonneg (fun x hx => (h.2 x hx).1), by omega, by omega, by omega⟩
theorem spB_small {P : List Int} (h : allIn P 0 100000 = true) : Hid (∀ x ∈ P, -4000000000 ≤ x ∧ x ≤ 4000000000) := fun x hx => by
  have := allIn_iff.1 h x hx
  omega
set_option maxHeartbeats 1000000 in
theorem impl_SavePrize_c (A : Option Addr) (n c : Nat) (P : List Int) (s : Int) (w : World) (hn : P.length = n) (hm : n ≤ 1048576) (hr : RI w A P) :
    Calls Try.prog 29 #[.slice A n c, .int .i64 s] w (LR w (spV P s) (spE P s)) := by
  subst hn
  cases h1 : inB (P.length : Int) 1 5
  · have HV := Lib.hid (show spV P s = [] by simp [spV, spB, h1])
    have HE := Lib.hid (show spE P s = 1 by simp [spE, spB, h1])
    go_enter Try.func29, Try.ntmps29
    go_wp2_with (go_at_call 94; refine (impl_within_c _ _ _ _).mono ?_; rintro e w' ⟨rfl, rfl⟩)
    go_ret2
    rw [HV.out, HE.out]
    exact LR.mk rfl rfl (Nat.zero_le _) (OI.nil _ _ _ _) (Below.refl _ _)
  cases h2 : allIn P 0 100000
  · have HV := Lib.hid (show spV P s = [] by simp [spV, spB, h2])
    have HE := Lib.hid (show spE P s = 1 by simp [spE, spB, h2])
    go_enter Try.func29, Try.ntmps29
    go_wp2_with (first
      | (go_at_call 94; refine (impl_within_c _ _ _ _).mono ?_; rintro e w' ⟨rfl, rfl⟩)
      | (go_at_call 95; refine (impl_allWithin_c _ _ _ P _ _ _ rfl hm hr).mono ?_; rintro e w' ⟨rfl, rfl⟩))
    go_ret2
    rw [HV.out, HE.out]
    exact LR.mk rfl rfl (Nat.zero_le _) (OI.nil _ _ _ _) (Below.refl _ _)
  have hsp : spB P = true := by simp [spB, h1, h2]
  have hz := spB_small h2
  obtain ⟨s0, s1, n0, n1⟩ := spB_sum hsp
  cases h3 : inB s 0 (sumL P)
  · have HV := Lib.hid (show spV P s = [] by simp [spV, h3])
    have HE := Lib.hid (show spE P s = 2 by simp [spE, hsp, h3])
    clear hsp
    go_enter Try.func29, Try.ntmps29
    go_wp2_with (first
      | (go_at_call 94; refine (impl_within_c _ _ _ _).mono ?_; rintro e w' ⟨rfl, rfl⟩)
      | (go_at_call 95; refine (impl_allWithin_c _ _ _ P _ _ _ rfl hm hr).mono ?_; rintro e w' ⟨rfl, rfl⟩)
      | (go_at_call 87; refine (impl_sumOf_c _ _ _ P _ rfl hm hr hz).mono ?_; rintro e w' ⟨rfl, rfl⟩))
    go_ret2
    rw [HV.out, HE.out]
    exact LR.mk rfl rfl (Nat.zero_le _) (OI.nil _ _ _ _) (Below.refl _ _)
  have HV := Lib.hid (show spV P s = (divV (sumL P - s) (List.replicate P.length 1)).set 0 ((divV (sumL P - s) (List.replicate P.length 1)).getD 0 0 + s) by simp [spV, hsp, h3])
  have HE := Lib.hid (show spE P s = 0 by simp [spE, hsp, h3])
  obtain ⟨t0, t1⟩ := inB_iff.1 h3
  have hok := ones_ok (u := sumL P - s) (n := P.length) (by omega) (by omega) n0 (by omega)
  have hbd := Lib.hid (divV_bd hok (by simp; omega))
  have hdl := Lib.hid (show (divV (sumL P - s) (List.replicate P.length 1)).length = P.length by rw [divV_len]; simp)
  clear hsp
  go_enter Try.func29, Try.ntmps29
  go_wp2_with (first
    | (go_at_call 94; refine (impl_within_c _ _ _ _).mono ?_; rintro e w' ⟨rfl, rfl⟩)
    | (go_at_call 95; refine (impl_allWithin_c _ _ _ P _ _ _ rfl hm hr).mono ?_; rintro e w' ⟨rfl, rfl⟩)
    | (go_at_call 87; refine (impl_sumOf_c _ _ _ P _ rfl hm hr hz).mono ?_; rintro e w' ⟨rfl, rfl⟩))
  refine (impl_equalWeights_c P.length _ hm).mono ?_
  rintro e w1 ⟨g1, rfl, o1, b1⟩
  go_wp2_with fail
  refine (impl_divided_c _ _ _ _ (List.replicate P.length 1) _ (by simp) n0 o1.ri hok).mono ?_
  rintro e w2 ⟨g, rfl, ho, hb⟩
  obtain ⟨x, hx⟩ := get_some (zs := divV (sumL P - s) (List.replicate P.length 1)) (k := 0) (by rw [hdl.out]; omega)
  obtain ⟨x0, x1⟩ := hbd.out x (List.mem_of_getElem? hx)
  obtain ⟨cx, fx⟩ := ho.cellX hx
  have hset := ho.set (j := 0) (by rw [hdl.out]; omega) (x + s)
  have hgl := (ho.lt (by rw [hdl.out]; omega)).1
  rw [show x = (divV (sumL P - s) (List.replicate P.length 1)).getD 0 0 by simp [List.getD, hx], ← HV.out] at hset
  have HX := Lib.hid (show (divV (sumL P - s) (List.replicate P.length 1)).getD 0 0 = x by simp [List.getD, hx])
  rw [HX.out] at hset
  have HSET := Lib.hid hset
  have HVL := Lib.hid (show (spV P s).length = P.length by rw [HV.out, List.length_set]; exact hdl.out)
  clear hx hset
  rw [Nat.add_zero] at cx fx
  have hq : (0 : Int) < (P.length : Int) := by omega
  have hbs := b1.size
  go_wp2_with fail
  go_ret2
  rw [HE.out]
  exact LR.mk rfl HVL.out hm (HSET.out.widen hbs (by simp [World.setCell])) ((below_step b1 hb hbs).setCell (show w.heap.size ≤ g by omega) _)
set_option maxHeartbeats 1000000 in
theorem spec_SavePrize_c (A : Option Addr) (n c : Nat) (P : List Int) (s : Int) (w : World) (hn : P.length = n) (hm : n ≤ 1048576) (hr : RI w A P) :
    Calls Try.prog 30 #[.slice A n c, .int .i64 s] w (LR w (spV P s) (spE P s)) := by
  subst hn
  rcases hr.split with h0 | ⟨b, off, rfl, hb, hc⟩
  all_goals
    go_enter Try.func30, Try.ntmps30
    go_wp2_with fail
    go_loop [6] (fun i => ∃ k : Nat, i = .int .i64 k ∧ k ≤ P.length ∧ Hid ((P.take k).all (fun x => inB x 0 100000) = true)) (fun i => P.length - (intOf i).toNat)
    case atStart => exact ⟨0, rfl, Nat.zero_le _, Lib.hid (by simp)⟩
    case round =>
      obtain ⟨k, rfl, hk, HA⟩ := hrel
      by_cases hlt : k < P.length
      · first
          | (exfalso; omega; done)
          | (obtain ⟨x, hx⟩ := get_some hlt
             have hcx := hc.out k x hx
             have HX := Lib.hid hx
             clear hx
             cases hs : inB x 0 100000
             · have hf := allB_fail (p := fun x => inB x 0 100000) HX.out hs
               have HV := Lib.hid (show spV P s = [] by unfold spV spB allIn; rw [hf]; simp)
               have HE := Lib.hid (show spE P s = 1 by unfold spE spB allIn; rw [hf]; simp)
               clear hf
               go_wp2_with (go_at_call 98; refine (spec_l01In_c _ _ _ _).mono ?_; rintro e w' ⟨rfl, rfl⟩)
               go_ret2
               rw [HV.out, HE.out]
               exact LR.mk rfl rfl (Nat.zero_le _) (OI.nil _ _ _ _) (Below.refl _ _)
             · go_wp2_with (go_at_call 98; refine (spec_l01In_c _ _ _ _).mono ?_; rintro e w' ⟨rfl, rfl⟩)
               go_round
               case rel => exact ⟨k + 1, by go_num, by omega, Lib.hid (by rw [allB_step HX.out, HA.out, hs]; rfl)⟩
               case measure => simp [intOf]; omega)
      · have hd : allIn P 0 100000 = true := allB_done (p := fun x => inB x 0 100000) hlt HA.out
        have hz := spB_small hd
        cases h1 : inB (P.length : Int) 1 5
        · have HV := Lib.hid (show spV P s = [] by simp [spV, spB, h1])
          have HE := Lib.hid (show spE P s = 1 by simp [spE, spB, h1])
          clear hd
          go_wp2_with (go_at_call 98; refine (spec_l01In_c _ _ _ _).mono ?_; rintro e w' ⟨rfl, rfl⟩)
          go_ret2
          rw [HV.out, HE.out]
          exact LR.mk rfl rfl (Nat.zero_le _) (OI.nil _ _ _ _) (Below.refl _ _)
        have hsp : spB P = true := by simp [spB, h1, hd]
        obtain ⟨s0, s1, n0, n1⟩ := spB_sum hsp
        first
          | (exfalso; omega; done)
          | (cases h3 : inB s 0 (sumL P)
             · have HV := Lib.hid (show spV P s = [] by simp [spV, h3])
               have HE := Lib.hid (show spE P s = 2 by simp [spE, hsp, h3])
               clear hsp hd
               go_wp2_with (first
                 | (go_at_call 98; refine (spec_l01In_c _ _ _ _).mono ?_; rintro e w' ⟨rfl, rfl⟩)
                 | (go_at_call 84; refine (spec_l01Sum_c _ _ _ P _ rfl hm hr hz).mono ?_; rintro e w' ⟨rfl, rfl⟩))
               go_ret2
               rw [HV.out, HE.out]
               exact LR.mk rfl rfl (Nat.zero_le _) (OI.nil _ _ _ _) (Below.refl _ _)
             have HV := Lib.hid (show spV P s = (divV (sumL P - s) (List.replicate P.length 1)).set 0 ((divV (sumL P - s) (List.replicate P.length 1)).getD 0 0 + s) by simp [spV, hsp, h3])
             have HE := Lib.hid (show spE P s = 0 by simp [spE, hsp, h3])
             obtain ⟨t0, t1⟩ := inB_iff.1 h3
             have hok := ones_ok (u := sumL P - s) (n := P.length) (by omega) (by omega) n0 (by omega)
             have hbd := Lib.hid (divV_bd hok (by simp; omega))
             have hdl := Lib.hid (show (divV (sumL P - s) (List.replicate P.length 1)).length = P.length by rw [divV_len]; simp)
             clear hsp hd
             go_wp2_with (first
               | (go_at_call 98; refine (spec_l01In_c _ _ _ _).mono ?_; rintro e w' ⟨rfl, rfl⟩)
               | (go_at_call 84; refine (spec_l01Sum_c _ _ _ P _ rfl hm hr hz).mono ?_; rintro e w' ⟨rfl, rfl⟩))
             refine (spec_l30Ones_c P.length _ (by omega)).mono ?_
             rintro e w1 ⟨g1, c1, rfl, o1, b1⟩
             go_wp2_with fail
             refine (spec_l30Divide_c _ _ _ _ (List.replicate P.length 1) _ (by simp) n0 o1.oi.ri hok).mono ?_
             rintro e w2 ⟨g, c2, rfl, ho, hb2⟩
             obtain ⟨x, hx⟩ := get_some (zs := divV (sumL P - s) (List.replicate P.length 1)) (k := 0) (by rw [hdl.out]; omega)
             obtain ⟨x0, x1⟩ := hbd.out x (List.mem_of_getElem? hx)
             obtain ⟨cx, fx⟩ := ho.cellX hx
             have hset := ho.set (j := 0) (by rw [hdl.out]; omega) (x + s)
             have hgl := (ho.lt (by rw [hdl.out]; omega)).1
             rw [show x = (divV (sumL P - s) (List.replicate P.length 1)).getD 0 0 by simp [List.getD, hx], ← HV.out] at hset
             have HX := Lib.hid (show (divV (sumL P - s) (List.replicate P.length 1)).getD 0 0 = x by simp [List.getD, hx])
             rw [HX.out] at hset
             have HSET := Lib.hid hset
             have HVL := Lib.hid (show (spV P s).length = P.length by rw [HV.out, List.length_set]; exact hdl.out)
             clear hx hset
             rw [Nat.add_zero] at cx fx
             have hq : (0 : Int) < (P.length : Int) := by omega
             have hbs := b1.size
             go_wp2_with fail
             go_ret2
             rw [HE.out]
             have HO := HSET.out.widen (lo' := w.heap.size) (hi' := w2.heap.size) hbs (Nat.le_refl _)
             have HW := (((below_step b1 hb2 hbs).setCell (p := ⟨g, 0, none⟩) (show w.heap.size ≤ g by omega) (.int .i64 (x + s))))
             refine LR.mk rfl HVL.out hm ?_ ?_
             · first
                 | exact HO.widen (Nat.le_refl _) (by simp [World.setCell])
                 | (simpa [World.setCell] using HO)
             · exact HW)
def lastV (S P : List Int) : Int := if P.length = S.length then P.getD (P.length - 1) 0 else 0
def ccV (S P : List Int) : List Int := if prizesB S P = true then (divV (sumL P - lastV S P * S.length) S).map (· + lastV S P) else []
theorem last_facts {S P : List Int} (h : prizesB S P = true) : 0 ≤ lastV S P ∧ lastV S P ≤ 100000 ∧ 0 ≤ sumL P - lastV S P * S.length := by
  obtain ⟨h1, h2, h3, h4, h5⟩ := prizesB_iff.1 h
  have hs := (prizes_sum h).1
  unfold lastV
  split
  · next he =>
    have hm : P.getD (P.length - 1) 0 ∈ P := getD_mem (by omega)
    obtain ⟨a, b⟩ := h4 _ hm
    have key : ∀ k, k < P.length → P.getD (P.length - 1) 0 ≤ P.getD (P.length - 1 - k) 0 := by
      intro k
      induction k with
      | zero => intro _; exact Int.le_refl _
      | succ k ih =>
        intro hk
        have := descB_le h5 (P.length - 1 - k) (by omega) (by omega)
        rw [show P.length - 1 - k - 1 = P.length - 1 - (k + 1) by omega] at this
        have := ih (by omega)
        omega
    have all : ∀ x ∈ P, P.getD (P.length - 1) 0 ≤ x := by
      intro x hx
      obtain ⟨i, hi, rfl⟩ := List.getElem_of_mem hx
      have := key (P.length - 1 - i) (by omega)
      rw [show P.length - 1 - (P.length - 1 - i) = i by omega] at this
      simpa [List.getD, hi] using this
    have ge : ∀ (l : List Int) (m : Int), (∀ x ∈ l, m ≤ x) → m * l.length ≤ sumL l := by
      intro l m
      rw [← sumD_sumL]
      induction l with
      | nil => intro _; simp [sumD_nil]
      | cons y l ih =>
        intro hh
        have h1 := hh y (by simp)
        have h2 := ih (fun z hz => hh z (by simp [hz]))
        rw [sumD_cons, List.length_cons, Int.natCast_add, Int.mul_add]
        simp; omega
    have := ge P _ all
    rw [he] at this
    exact ⟨a, b, by rw [he] at *; omega⟩
  · exact ⟨Int.le_refl _, by omega, by omega⟩
theorem cc_ok {S P : List Int} (h : prizesB S P = true) : DivOk (sumL P - lastV S P * S.length) S := by
  obtain ⟨h1, h2, h3, h4, h5⟩ := prizesB_iff.1 h
  obtain ⟨k1, k2, k3⟩ := fieldB_iff.1 h1
  obtain ⟨l1, l2, l3⟩ := last_facts h
  obtain ⟨s0, s1, -⟩ := prizes_sum h
  have hp := Int.mul_nonneg l1 (show (0 : Int) ≤ S.length by omega)
  refine ⟨l3, by omega, fun x hx => by have := k3 x hx; omega, ?_, by omega⟩
  have hm := mem_le_sum (l := S) (fun z hz => by have := k3 z hz; omega) _ (List.getElem_mem (l := S) (n := 0) (by omega))
  have := k3 _ (List.getElem_mem (l := S) (n := 0) (by omega))
  rw [sumD_sumL] at hm
  omega
theorem map_set_step {l : List Int} {k : Nat} {x a : Int} (hx : l[k]? = some x) : ((l.take k).map (· + a) ++ l.drop k).set k (x + a) = (l.take (k + 1)).map (· + a) ++ l.drop (k + 1) := by
  have hk : k < l.length := (List.getElem?_eq_some_iff.1 hx).1
  have hxe : l[k] = x := (List.getElem?_eq_some_iff.1 hx).2
  have h1 : ((l.take k).map (· + a)).length = k := by simp; omega
  rw [List.set_append_right _ _ (by omega), h1, Nat.sub_self, List.drop_eq_getElem_cons hk, List.set_cons_zero, List.take_add_one, hx, List.map_append]
  simp
theorem map_set_get {l : List Int} {k : Nat} {x a : Int} (hx : l[k]? = some x) : ((l.take k).map (· + a) ++ l.drop k)[k]? = some x := by
  have hk : k < l.length := (List.getElem?_eq_some_iff.1 hx).1
  have h1 : ((l.take k).map (· + a)).length = k := by simp; omega
  rw [List.getElem?_append_right (by omega), h1, Nat.sub_self, List.getElem?_drop]
  simpa using hx
set_option maxHeartbeats 2000000 in
theorem impl_ChipChop_c (A : Option Addr) (n c : Nat) (S : List Int) (B : Option Addr) (m d : Nat) (P : List Int) (w : World) (hn : S.length = n) (hm : n ≤ 1048576) (hr : RI w A S) (hn' : P.length = m) (hm' : m ≤ 1048576) (hr' : RI w B P) :
    Calls Try.prog 34 #[.slice A n c, .slice B m d] w (LR w (ccV S P) (ecE S P)) := by
  subst hn
  subst hn'
  cases h1 : prizesB S P
  · have HV := Lib.hid (show ccV S P = [] by simp [ccV, h1])
    have HE := Lib.hid (show ecE S P = 1 by simp [ecE, h1])
    go_enter Try.func34, Try.ntmps34
    go_wp2_with (go_at_call 103; refine (impl_ArePrizes_c _ _ _ _ _ _ S P _ rfl hm hr rfl hm' hr').mono ?_; rintro e w' ⟨rfl, q, rfl⟩)
    go_ret2
    rw [HV.out, HE.out]
    exact LR.mk rfl rfl (Nat.zero_le _) (OI.nil _ _ _ _) (below_drewN (Below.refl _ _) _)
  have HE := Lib.hid (show ecE S P = 0 by simp [ecE, h1])
  obtain ⟨s0, s1, n0, n1, m0, m1⟩ := prizes_sum h1
  obtain ⟨L, hLe⟩ : ∃ L, lastV S P = L := ⟨_, rfl⟩
  obtain ⟨l0, l1, l2⟩ := last_facts h1
  have hz := prizes_small h1
  have hok := cc_ok h1
  rw [hLe] at l0 l1 l2 hok
  obtain ⟨D, hD⟩ : ∃ D, divV (sumL P - L * S.length) S = D := ⟨_, rfl⟩
  have hbd := Lib.hid (show ∀ x ∈ D, 0 ≤ x ∧ x ≤ 1000000000000 by rw [← hD]; exact divV_bd hok (by omega))
  have HD := Lib.hid (show D.length = S.length by rw [← hD]; exact divV_len _ _)
  have HV := Lib.hid (show ccV S P = D.map (· + L) by rw [← hD]; simp [ccV, h1, hLe])
  rcases hr'.split with h0 | ⟨b, off, rfl, hbb, hc⟩
  · omega
  have p0 : 0 ≤ L * S.length := Int.mul_nonneg l0 (by omega)
  have p1 : L * S.length ≤ 500000 := by
    have := Int.mul_le_mul l1 (show (S.length : Int) ≤ 5 by omega) (by omega) (by omega)
    omega
  by_cases hne : P.length = S.length
  · have e1 : ((P.length : Int) == (S.length : Int)) = true := by simp [hne]
    have hL : P[P.length - 1]? = some L := by
      rw [← hLe]
      unfold lastV
      rw [if_pos hne]
      exact get_getD (by omega)
    have hcx := hc.out _ _ hL
    have e0 : IntKind.i64.wrap ((P.length : Int) - 1) = ((P.length - 1 : Nat) : Int) := by rw [IntKind.wrap_i64]; omega
    have b3 : ((P.length : Int) - 1) < (P.length : Int) := by omega
    have b4 : (0 : Int) ≤ ((P.length : Int) - 1) := by omega
    have b5 : ((P.length : Int) - 1).toNat = P.length - 1 := by omega
    have ew : IntKind.i64.wrap (L * (S.length : Int)) = L * (S.length : Int) := by rw [IntKind.wrap_i64]; omega
    have HDD := Lib.hid hD
    clear hL hne hc hD hLe
    go_enter Try.func34, Try.ntmps34
    go_wp2_with (first
      | (go_at_call 103; refine (impl_ArePrizes_c _ _ _ _ _ _ S P _ rfl hm hr rfl hm' hr').mono ?_; rintro e w' ⟨rfl, q, rfl⟩)
      | (go_at_call 87; refine (impl_sumOf_c _ _ _ P _ rfl hm' (hr'.drewN _) hz).mono ?_; rintro e w' ⟨rfl, rfl⟩))
    refine (impl_divided_c _ _ _ _ S _ rfl (by omega) (hr.drewN _) hok).mono ?_
    rintro e w1 ⟨g, rfl, ho, hb'⟩
    have hb1 : Below w.heap.size w w1 := below_step (below_drewN (Below.refl w.heap.size w) _) hb' (Nat.le_refl _)
    rw [HDD.out] at ho
    have ho' := Lib.hid (show OI w1 w.heap.size w1.heap.size (some ⟨g, 0, none⟩) D from ho)
    have hgl : w.heap.size ≤ g := (ho.lt (by rw [HD.out]; omega)).1
    have hgs : g < w1.heap.size := (ho.lt (by rw [HD.out]; omega)).2.1
    clear ho hb'
    go_wp2_with fail
    go_loopw [35] (fun i wr => ∃ k : Nat, i = .int .i64 k ∧ k ≤ S.length ∧ Hid (OI wr w.heap.size w1.heap.size (some ⟨g, 0, none⟩) ((D.take k).map (· + L) ++ D.drop k)) ∧ Hid (Below w.heap.size w wr) ∧ w1.heap.size ≤ wr.heap.size) (fun i _ => S.length - (intOf i).toNat)
    case atStart => exact ⟨0, rfl, Nat.zero_le _, Lib.hid (by simpa using ho'.out), Lib.hid hb1, Nat.le_refl _⟩
    case round =>
      clear ho'
      obtain ⟨k, rfl, hk, ho, hbr, hsz⟩ := hrel
      by_cases hlt : k < S.length
      · obtain ⟨x, hx⟩ := get_some (zs := D) (k := k) (by rw [HD.out]; exact hlt)
        obtain ⟨x0, x1⟩ := hbd.out x (List.mem_of_getElem? hx)
        obtain ⟨cx, fx⟩ := ho.out.cellX (map_set_get (a := L) hx)
        have hset := ho.out.set (j := k) (by simp; have := HD.out; omega) (x + L)
        rw [Nat.zero_add] at cx fx hset
        rw [map_set_step hx] at hset
        have HS := Lib.hid hset
        have HB := Lib.hid (hbr.out.setCell (p := ⟨g, k, none⟩) hgl (.int .i64 (x + L)))
        have HZ := Lib.hid (show w1.heap.size ≤ (wr.setCell ⟨g, k, none⟩ (.int .i64 (x + L))).heap.size by simpa [World.setCell] using hsz)
        have b1 : (k : Int) < (S.length : Int) := by omega
        have b2 : (0 : Int) ≤ (k : Int) := by omega
        clear hx hset ho hbr
        go_wp2_with fail
        go_roundw
        case rel => exact ⟨k + 1, by go_num, by omega, HS, HB, HZ.out⟩
        case measure => simp [intOf]; omega
      · have hke : k = S.length := by omega
        have ho2 := ho.out
        rw [hke, List.take_of_length_le (by rw [HD.out]; omega), List.drop_of_length_le (by rw [HD.out]; omega), List.append_nil] at ho2
        have HO := Lib.hid ho2
        clear hke ho ho2
        go_wp2_with fail
        go_ret2
        rw [HV.out, HE.out]
        exact LR.mk rfl (by rw [List.length_map]; exact HD.out) hm (HO.out.widen (Nat.le_refl _) hsz) hbr.out

  · have e1 : ((P.length : Int) == (S.length : Int)) = false := by simp; omega
    obtain rfl : L = 0 := by rw [← hLe]; unfold lastV; rw [if_neg hne]
    rw [Int.zero_mul, Int.sub_zero] at hD hok
    have HDD := Lib.hid hD
    clear hc hD hLe p0 p1 l2
    go_enter Try.func34, Try.ntmps34
    go_wp2_with (first
      | (go_at_call 103; refine (impl_ArePrizes_c _ _ _ _ _ _ S P _ rfl hm hr rfl hm' hr').mono ?_; rintro e w' ⟨rfl, q, rfl⟩)
      | (go_at_call 87; refine (impl_sumOf_c _ _ _ P _ rfl hm' (hr'.drewN _) hz).mono ?_; rintro e w' ⟨rfl, rfl⟩))
    refine (impl_divided_c _ _ _ _ S _ rfl (by omega) (hr.drewN _) hok).mono ?_
    rintro e w1 ⟨g, rfl, ho, hb'⟩
    have hb1 : Below w.heap.size w w1 := below_step (below_drewN (Below.refl w.heap.size w) _) hb' (Nat.le_refl _)
    rw [HDD.out] at ho
    have ho' := Lib.hid (show OI w1 w.heap.size w1.heap.size (some ⟨g, 0, none⟩) D from ho)
    have hgl : w.heap.size ≤ g := (ho.lt (by rw [HD.out]; omega)).1
    have hgs : g < w1.heap.size := (ho.lt (by rw [HD.out]; omega)).2.1
    clear ho hb'
    go_wp2_with fail
    go_loopw [35] (fun i wr => ∃ k : Nat, i = .int .i64 k ∧ k ≤ S.length ∧ Hid (OI wr w.heap.size w1.heap.size (some ⟨g, 0, none⟩) ((D.take k).map (· + 0) ++ D.drop k)) ∧ Hid (Below w.heap.size w wr) ∧ w1.heap.size ≤ wr.heap.size) (fun i _ => S.length - (intOf i).toNat)
    case atStart => exact ⟨0, rfl, Nat.zero_le _, Lib.hid (by simpa using ho'.out), Lib.hid hb1, Nat.le_refl _⟩
    case round =>
      clear ho'
      obtain ⟨k, rfl, hk, ho, hbr, hsz⟩ := hrel
      by_cases hlt : k < S.length
      · obtain ⟨x, hx⟩ := get_some (zs := D) (k := k) (by rw [HD.out]; exact hlt)
        obtain ⟨x0, x1⟩ := hbd.out x (List.mem_of_getElem? hx)
        obtain ⟨cx, fx⟩ := ho.out.cellX (map_set_get (a := 0) hx)
        have hset := ho.out.set (j := k) (by simp; have := HD.out; omega) (x + 0)
        rw [Nat.zero_add] at cx fx hset
        rw [map_set_step hx] at hset
        have HS := Lib.hid hset
        have HB := Lib.hid (hbr.out.setCell (p := ⟨g, k, none⟩) hgl (.int .i64 (x + 0)))
        have HZ := Lib.hid (show w1.heap.size ≤ (wr.setCell ⟨g, k, none⟩ (.int .i64 (x + 0))).heap.size by simpa [World.setCell] using hsz)
        have b1 : (k : Int) < (S.length : Int) := by omega
        have b2 : (0 : Int) ≤ (k : Int) := by omega
        clear hx hset ho hbr
        go_wp2_with fail
        go_roundw
        case rel => exact ⟨k + 1, by go_num, by omega, by simpa using HS, by simpa using HB, by simpa using HZ.out⟩
        case measure => simp [intOf]; omega
      · have hke : k = S.length := by omega
        have ho2 := ho.out
        rw [hke, List.take_of_length_le (by rw [HD.out]; omega), List.drop_of_length_le (by rw [HD.out]; omega), List.append_nil] at ho2
        have HO := Lib.hid ho2
        clear hke ho ho2
        go_wp2_with fail
        go_ret2
        rw [HV.out, HE.out]
        exact LR.mk rfl (by rw [List.length_map]; exact HD.out) hm (HO.out.widen (Nat.le_refl _) hsz) hbr.out
set_option maxHeartbeats 2000000 in
theorem spec_ChipChop_c (A : Option Addr) (n c : Nat) (S : List Int) (B : Option Addr) (m d : Nat) (P : List Int) (w : World) (hn : S.length = n) (hm : n ≤ 1048576) (hr : RI w A S) (hn' : P.length = m) (hm' : m ≤ 1048576) (hr' : RI w B P) :
    Calls Try.prog 35 #[.slice A n c, .slice B m d] w (LR w (ccV S P) (ecE S P)) := by
  subst hn
  subst hn'
  cases h1 : prizesB S P
  · have HV := Lib.hid (show ccV S P = [] by simp [ccV, h1])
    have HE := Lib.hid (show ecE S P = 1 by simp [ecE, h1])
    go_enter Try.func35, Try.ntmps35
    go_wp2_with (go_at_call 104; refine (spec_ArePrizes_c _ _ _ _ _ _ S P _ rfl hm hr rfl hm' hr').mono ?_; rintro e w' ⟨rfl, q, rfl⟩)
    go_ret2
    rw [HV.out, HE.out]
    exact LR.mk rfl rfl (Nat.zero_le _) (OI.nil _ _ _ _) (below_drewN (Below.refl _ _) _)
  have HE := Lib.hid (show ecE S P = 0 by simp [ecE, h1])
  obtain ⟨s0, s1, n0, n1, m0, m1⟩ := prizes_sum h1
  obtain ⟨L, hLe⟩ : ∃ L, lastV S P = L := ⟨_, rfl⟩
  obtain ⟨l0, l1, l2⟩ := last_facts h1
  have hz := prizes_small h1
  have hok := cc_ok h1
  rw [hLe] at l0 l1 l2 hok
  obtain ⟨D, hD⟩ : ∃ D, divV (sumL P - L * S.length) S = D := ⟨_, rfl⟩
  have hbd := Lib.hid (show ∀ x ∈ D, 0 ≤ x ∧ x ≤ 1000000000000 by rw [← hD]; exact divV_bd hok (by omega))
  have HD := Lib.hid (show D.length = S.length by rw [← hD]; exact divV_len _ _)
  have HV := Lib.hid (show ccV S P = D.map (· + L) by rw [← hD]; simp [ccV, h1, hLe])
  rcases hr'.split with h0 | ⟨b, off, rfl, hbb, hc⟩
  · omega
  have p0 : 0 ≤ L * S.length := Int.mul_nonneg l0 (by omega)
  have p1 : L * S.length ≤ 500000 := by
    have := Int.mul_le_mul l1 (show (S.length : Int) ≤ 5 by omega) (by omega) (by omega)
    omega
  by_cases hne : P.length = S.length
  · have e1 : ((P.length : Int) == (S.length : Int)) = true := by simp [hne]
    have hL : P[P.length - 1]? = some L := by
      rw [← hLe]
      unfold lastV
      rw [if_pos hne]
      exact get_getD (by omega)
    have hcx := hc.out _ _ hL
    have e0 : IntKind.i64.wrap ((P.length : Int) - 1) = ((P.length - 1 : Nat) : Int) := by rw [IntKind.wrap_i64]; omega
    have b3 : ((P.length : Int) - 1) < (P.length : Int) := by omega
    have b4 : (0 : Int) ≤ ((P.length : Int) - 1) := by omega
    have b5 : ((P.length : Int) - 1).toNat = P.length - 1 := by omega
    have ew : IntKind.i64.wrap (L * (S.length : Int)) = L * (S.length : Int) := by rw [IntKind.wrap_i64]; omega
    have HDD := Lib.hid hD
    clear hL hne hc hD hLe
    go_enter Try.func35, Try.ntmps35
    go_wp2_with (first
      | (go_at_call 104; refine (spec_ArePrizes_c _ _ _ _ _ _ S P _ rfl hm hr rfl hm' hr').mono ?_; rintro e w' ⟨rfl, q, rfl⟩)
      | (go_at_call 84; refine (spec_l01Sum_c _ _ _ P _ rfl hm' (hr'.drewN _) hz).mono ?_; rintro e w' ⟨rfl, rfl⟩))
    refine (spec_l30Divide_c _ _ _ _ S _ rfl (by omega) (hr.drewN _) hok).mono ?_
    rintro e w1 ⟨g, c2, rfl, ho, hb'⟩
    have hb1 : Below w.heap.size w w1 := below_step (below_drewN (Below.refl w.heap.size w) _) hb' (Nat.le_refl _)
    rw [HDD.out] at ho
    have ho' := Lib.hid (show OI w1 w.heap.size w1.heap.size (some ⟨g, 0, none⟩) D from ho)
    have hgl : w.heap.size ≤ g := (ho.lt (by rw [HD.out]; omega)).1
    have hgs : g < w1.heap.size := (ho.lt (by rw [HD.out]; omega)).2.1
    clear ho hb'
    go_wp2_with fail
    go_loopw [8] (fun i wr => ∃ k : Nat, i = .int .i64 k ∧ k ≤ S.length ∧ Hid (OI wr w.heap.size w1.heap.size (some ⟨g, 0, none⟩) ((D.take k).map (· + L) ++ D.drop k)) ∧ Hid (Below w.heap.size w wr) ∧ w1.heap.size ≤ wr.heap.size) (fun i _ => S.length - (intOf i).toNat)
    case atStart => exact ⟨0, rfl, Nat.zero_le _, Lib.hid (by simpa using ho'.out), Lib.hid hb1, Nat.le_refl _⟩
    case round =>
      clear ho'
      obtain ⟨k, rfl, hk, ho, hbr, hsz⟩ := hrel
      by_cases hlt : k < S.length
      · obtain ⟨x, hx⟩ := get_some (zs := D) (k := k) (by rw [HD.out]; exact hlt)
        obtain ⟨x0, x1⟩ := hbd.out x (List.mem_of_getElem? hx)
        obtain ⟨cx, fx⟩ := ho.out.cellX (map_set_get (a := L) hx)
        have hset := ho.out.set (j := k) (by simp; have := HD.out; omega) (x + L)
        rw [Nat.zero_add] at cx fx hset
        rw [map_set_step hx] at hset
        have HS := Lib.hid hset
        have HB := Lib.hid (hbr.out.setCell (p := ⟨g, k, none⟩) hgl (.int .i64 (x + L)))
        have HZ := Lib.hid (show w1.heap.size ≤ (wr.setCell ⟨g, k, none⟩ (.int .i64 (x + L))).heap.size by simpa [World.setCell] using hsz)
        have b1 : (k : Int) < (S.length : Int) := by omega
        have b2 : (0 : Int) ≤ (k : Int) := by omega
        clear hx hset ho hbr
        go_wp2_with fail
        go_roundw
        case rel => exact ⟨k + 1, by go_num, by omega, HS, HB, HZ.out⟩
        case measure => simp [intOf]; omega
      · have hke : k = S.length := by omega
        have ho2 := ho.out
        rw [hke, List.take_of_length_le (by rw [HD.out]; omega), List.drop_of_length_le (by rw [HD.out]; omega), List.append_nil] at ho2
        have HO := Lib.hid ho2
        clear hke ho ho2
        go_wp2_with fail
        go_ret2
        rw [HV.out, HE.out]
        exact LR.mk rfl (by rw [List.length_map]; exact HD.out) hm (HO.out.widen (Nat.le_refl _) hsz) hbr.out

  · have e1 : ((P.length : Int) == (S.length : Int)) = false := by simp; omega
    obtain rfl : L = 0 := by rw [← hLe]; unfold lastV; rw [if_neg hne]
    rw [Int.zero_mul, Int.sub_zero] at hD hok
    have HDD := Lib.hid hD
    clear hc hD hLe p0 p1 l2
    go_enter Try.func35, Try.ntmps35
    go_wp2_with (first
      | (go_at_call 104; refine (spec_ArePrizes_c _ _ _ _ _ _ S P _ rfl hm hr rfl hm' hr').mono ?_; rintro e w' ⟨rfl, q, rfl⟩)
      | (go_at_call 84; refine (spec_l01Sum_c _ _ _ P _ rfl hm' (hr'.drewN _) hz).mono ?_; rintro e w' ⟨rfl, rfl⟩))
    refine (spec_l30Divide_c _ _ _ _ S _ rfl (by omega) (hr.drewN _) hok).mono ?_
    rintro e w1 ⟨g, c2, rfl, ho, hb'⟩
    have hb1 : Below w.heap.size w w1 := below_step (below_drewN (Below.refl w.heap.size w) _) hb' (Nat.le_refl _)
    rw [HDD.out] at ho
    have ho' := Lib.hid (show OI w1 w.heap.size w1.heap.size (some ⟨g, 0, none⟩) D from ho)
    have hgl : w.heap.size ≤ g := (ho.lt (by rw [HD.out]; omega)).1
    have hgs : g < w1.heap.size := (ho.lt (by rw [HD.out]; omega)).2.1
    clear ho hb'
    go_wp2_with fail
    go_loopw [8] (fun i wr => ∃ k : Nat, i = .int .i64 k ∧ k ≤ S.length ∧ Hid (OI wr w.heap.size w1.heap.size (some ⟨g, 0, none⟩) ((D.take k).map (· + 0) ++ D.drop k)) ∧ Hid (Below w.heap.size w wr) ∧ w1.heap.size ≤ wr.heap.size) (fun i _ => S.length - (intOf i).toNat)
    case atStart => exact ⟨0, rfl, Nat.zero_le _, Lib.hid (by simpa using ho'.out), Lib.hid hb1, Nat.le_refl _⟩
    case round =>
      clear ho'
      obtain ⟨k, rfl, hk, ho, hbr, hsz⟩ := hrel
      by_cases hlt : k < S.length
      · obtain ⟨x, hx⟩ := get_some (zs := D) (k := k) (by rw [HD.out]; exact hlt)
        obtain ⟨x0, x1⟩ := hbd.out x (List.mem_of_getElem? hx)
        obtain ⟨cx, fx⟩ := ho.out.cellX (map_set_get (a := 0) hx)
        have hset := ho.out.set (j := k) (by simp; have := HD.out; omega) (x + 0)
        rw [Nat.zero_add] at cx fx hset
        rw [map_set_step hx] at hset
        have HS := Lib.hid hset
        have HB := Lib.hid (hbr.out.setCell (p := ⟨g, k, none⟩) hgl (.int .i64 (x + 0)))
        have HZ := Lib.hid (show w1.heap.size ≤ (wr.setCell ⟨g, k, none⟩ (.int .i64 (x + 0))).heap.size by simpa [World.setCell] using hsz)
        have b1 : (k : Int) < (S.length : Int) := by omega
        have b2 : (0 : Int) ≤ (k : Int) := by omega
        clear hx hset ho hbr
        go_wp2_with fail
        go_roundw
        case rel => exact ⟨k + 1, by go_num, by omega, by simpa using HS, by simpa using HB, by simpa using HZ.out⟩
        case measure => simp [intOf]; omega
      · have hke : k = S.length := by omega
        have ho2 := ho.out
        rw [hke, List.take_of_length_le (by rw [HD.out]; omega), List.drop_of_length_le (by rw [HD.out]; omega), List.append_nil] at ho2
        have HO := Lib.hid ho2
        clear hke ho ho2
        go_wp2_with fail
        go_ret2
        rw [HV.out, HE.out]
        exact LR.mk rfl (by rw [List.length_map]; exact HD.out) hm (HO.out.widen (Nat.le_refl _) hsz) hbr.out
end Go.Proofs.Ythpgkngkmmameaa
namespace Go.Proofs.Ythpgkngkmmameaa
open Go.RowKit
set_option linter.unusedVariables false
theorem divV_small {u : Int} {ws : List Int} (h : DivOk u ws) (hl : 0 < ws.length) : ∀ x ∈ divV u ws, 0 ≤ x ∧ x ≤ u := by
  intro x hx
  have h0 : ∀ x ∈ divV u ws, 0 ≤ x := fun x hx => (divV_bd h hl x hx).1
  have := mem_le_sum h0 x hx
  rw [sumD_sumL, divV_sum h] at this
  exact ⟨h0 x hx, this⟩
theorem dm_fact {u : Int} {ws : List Int} (h : dmE u ws = 0) : dmB ws = true ∧ inB u 0 1000000 = true ∧ dmV u ws = divV u ws := by
  by_cases h1 : dmB ws = true
  · by_cases h2 : inB u 0 1000000 = true
    · exact ⟨h1, h2, by unfold dmV; rw [if_pos h1, if_pos h2]⟩
    · exfalso; unfold dmE at h; rw [if_pos h1, if_neg h2] at h; exact absurd h (by decide)
  · exfalso; unfold dmE at h; rw [if_neg h1] at h; exact absurd h (by decide)
theorem small_of {l : List Int} {B : Int} (hB : B ≤ 1000000) (h : ∀ x ∈ l, 0 ≤ x ∧ x ≤ B) : Hid (∀ x ∈ l, -4000000000 ≤ x ∧ x ≤ 4000000000) := Lib.hid (fun x hx => by have := h x hx; omega)
/-- What the law reads of DivideMoney. -/
theorem dm_law {u : Int} {ws : List Int} (h : dmE u ws = 0) : (dmV u ws).length = ws.length ∧ ws.length ≤ 5 ∧ (∀ x ∈ ws, 0 ≤ x ∧ x ≤ 1000000) ∧ 0 ≤ u ∧ u ≤ 1000000 ∧ 0 < sumL ws ∧ sumL ws ≤ 5000000 ∧ sumL (dmV u ws) = u ∧ Hid (∀ x ∈ dmV u ws, -4000000000 ≤ x ∧ x ≤ 4000000000) ∧
    ∀ (i : Nat) (x y : Int), (dmV u ws)[i]? = some x → ws[i]? = some y → u * y - sumL ws < x * sumL ws ∧ x * sumL ws < u * y + sumL ws ∧ 0 ≤ x * sumL ws ∧ 0 ≤ u * y ∧ u * y ≤ 1000000000000 := by
  obtain ⟨h1, h2, h3⟩ := dm_fact h
  have hok := dmB_ok h1 h2
  rw [h3]
  unfold dmB at h1
  rw [Bool.and_eq_true, Bool.and_eq_true, inB_iff, allIn_iff, decide_eq_true_eq] at h1
  obtain ⟨⟨n1, a1⟩, t0⟩ := h1
  obtain ⟨u0, u1⟩ := inB_iff.1 h2
  have hs := sumL_bound (zs := ws) (B := 1000000) (by omega) (fun x hx => by have := a1 x hx; omega) ws.length
  rw [List.take_length] at hs
  have hlaw := (div_law hok.u0 (fun x hx => (a1 x hx).1) (by rw [sumD_sumL]; exact t0)).2.2
  refine ⟨divV_len u ws, by omega, a1, u0, u1, t0, by omega, divV_sum hok, small_of u1 (divV_small hok (by omega)), fun i x y hx hy => ?_⟩
  have hi : i < ws.length := (List.getElem?_eq_some_iff.1 hy).1
  have := hlaw i hi
  rw [show (divV u ws).getD i 0 = x by simp [List.getD, hx], show ws.getD i 0 = y by simp [List.getD, hy], sumD_sumL] at this
  have hx0 := (divV_small hok (by omega) x (List.mem_of_getElem? hx)).1
  have hy0 := a1 y (List.mem_of_getElem? hy)
  have m1 := Int.mul_nonneg hx0 (show 0 ≤ sumL ws by omega)
  have m2 := Int.mul_nonneg u0 hy0.1
  have m3 : u * y ≤ 1000000 * 1000000 := Int.mul_le_mul u1 hy0.2 hy0.1 (by omega)
  exact ⟨this.1, this.2, m1, m2, by omega⟩
/-- What the law reads of SplitBounty. -/
theorem sb_law {u k : Int} (h : sbE u k = 0) : sumL (sbV u k) = u ∧ Hid (∀ x ∈ sbV u k, -4000000000 ≤ x ∧ x ≤ 4000000000) := by
  unfold sbE at h
  by_cases hc : (inB u 0 1000000 && inB k 1 5) = true
  · unfold sbV
    rw [if_pos hc]
    rw [Bool.and_eq_true] at hc
    obtain ⟨u0, u1⟩ := inB_iff.1 hc.1
    obtain ⟨k0, k1⟩ := inB_iff.1 hc.2
    have hok := ones_ok (n := k.toNat) u0 (by omega) (by omega) (by omega)
    exact ⟨divV_sum hok, small_of u1 (divV_small hok (by simp; omega))⟩
  · rw [if_neg hc] at h; exact absurd h (by decide)
/-- What the law reads of SavePrize. -/
theorem sp_law {P : List Int} {s : Int} (h : spE P s = 0) : sumL (spV P s) = sumL P ∧ Hid (∀ x ∈ spV P s, -4000000000 ≤ x ∧ x ≤ 4000000000) ∧ Hid (∀ x ∈ P, -4000000000 ≤ x ∧ x ≤ 4000000000) := by
  unfold spE at h
  by_cases h1 : spB P = true
  · rw [if_pos h1] at h
    by_cases h2 : inB s 0 (sumL P) = true
    · obtain ⟨s0, s1⟩ := inB_iff.1 h2
      obtain ⟨p0, p1, p2, p3⟩ := spB_sum h1
      have hok := ones_ok (u := sumL P - s) (n := P.length) (by omega) (by omega) (by omega) (by omega)
      have hb := divV_small hok (by simp; omega)
      have hl : (divV (sumL P - s) (List.replicate P.length 1)).length = P.length := by rw [divV_len]; simp
      have e : spV P s = (divV (sumL P - s) (List.replicate P.length 1)).set 0 ((divV (sumL P - s) (List.replicate P.length 1)).getD 0 0 + s) := by simp [spV, h1, h2]
      have hsm : ∀ x ∈ spV P s, 0 ≤ x ∧ x ≤ sumL P := by
        intro x hx
        rw [e] at hx
        rcases List.mem_or_eq_of_mem_set hx with hx | hx
        · have := hb x hx; omega
        · obtain ⟨y, hy⟩ := get_some (zs := divV (sumL P - s) (List.replicate P.length 1)) (k := 0) (by omega)
          rw [show (divV (sumL P - s) (List.replicate P.length 1)).getD 0 0 = y by simp [List.getD, hy]] at hx
          have := hb y (List.mem_of_getElem? hy); omega
      refine ⟨?_, small_of (B := 500000) (by omega) (fun x hx => by have := hsm x hx; omega), spB_small (by unfold spB at h1; rw [Bool.and_eq_true] at h1; exact h1.2)⟩
      have hs := divV_sum hok
      have hq := sumD_set (divV (sumL P - s) (List.replicate P.length 1)) 0 ((divV (sumL P - s) (List.replicate P.length 1)).getD 0 0 + s) (by omega)
      rw [sumD_sumL, sumD_sumL, hs] at hq
      rw [e, hq]; omega
    · rw [if_neg h2] at h; exact absurd h (by decide)
  · rw [if_neg h1] at h; exact absurd h (by decide)
end Go.Proofs.Ythpgkngkmmameaa
namespace Go.Proofs.Ythpgkngkmmameaa
open Go.RowKit
set_option linter.unusedVariables false
theorem ch_range {es : List (Int × Int)} {n : Nat} (h : es.length = n) : es = (List.range n).map (getQ es) := by
  apply List.ext_getElem?
  intro i
  by_cases hi : i < n
  · obtain ⟨x, y, hxy⟩ := get_q (qs := es) (k := i) (by omega)
    rw [hxy]
    simp [hi, getQ_some hxy]
  · rw [List.getElem?_eq_none (by omega), List.getElem?_eq_none (by simp; omega)]
theorem eq_sum {S P : List Int} {es : List (Int × Int)} (h : ChOk S P es) : sumR (List.range S.length) (fun j => rv (getQ es j)) = (sumL P : Rat) := by
  have hS := field_posL h.pr
  have hl : P.length ≤ S.length := (prizesB_iff.1 h.pr).2.2.1
  rw [sumL_tot, ← W_sum P S hS hl, picks_range S (fun a r => W P a r)]
  refine sumR_congr fun j hj => ?_
  have hj' : j < S.length := List.mem_range.1 hj
  obtain ⟨q, h1, h2⟩ := feK_get h.fk hj'
  rw [getQ_some h2]
  exact (icm_val P S j q hS hj' h1).2
theorem eq_good {S P : List Int} {es : List (Int × Int)} (h : ChOk S P es) {j : Nat} (hj : j < S.length) : okQ (getQ es j) ∧ 0 ≤ (getQ es j).1 := by
  have := feK_good h.pr (Nat.le_refl _) h.fk j hj
  exact ⟨this.2, this.1⟩
theorem fl_le {q : Int × Int} (h : okQ q) (h0 : 0 ≤ q.1) : ((q.1 / q.2 : Int) : Rat) ≤ rv q := by
  have hs := Sm.of h
  have a := Int.ediv_nonneg h0 (show 0 ≤ q.2 by have := hs.d0; omega)
  have b := Int.ediv_le_self q.2 h0
  have n1 := hs.n1
  have c : okQ (q.1 / q.2, 1) := okQ_whole (by omega) (by omega)
  have := (rv_cross c h).2 (by show q.1 / q.2 * q.2 ≤ q.1 * 1; have := Int.ediv_mul_le q.1 (show q.2 ≠ 0 by have := hs.d0; omega); omega)
  rwa [rv_whole] at this
theorem left_nonneg {S P : List Int} {es : List (Int × Int)} (h : ChOk S P es) : sumL (flQ es) ≤ sumL P := by
  have e : ((sumL (flQ es) : Int) : Rat) ≤ ((sumL P : Int) : Rat) := by
    rw [← eq_sum h, sumL_tot]
    unfold totR flQ
    rw [sumR_map, ch_range h.len, sumR_map]
    refine sumR_le fun j hj => ?_
    have hj' : j < S.length := List.mem_range.1 hj
    obtain ⟨a, b⟩ := eq_good h hj'
    rw [← ch_range h.len]
    exact fl_le a b
  exact_mod_cast e
theorem give_sum {s : List Int × List (Int × Int)} {n : Nat} (h1 : s.1.length = n) (h2 : s.2.length = n) (h0 : 0 < n) : ∀ k, sumL (giveQ k s).1 = sumL s.1 + k
  | 0 => by simp [giveQ]
  | k + 1 => by
    obtain ⟨l1, l2⟩ := giveQ_len k s
    have hb := maxQ_lt (giveQ k s).2 (Nat.le_refl (giveQ k s).2.length) (by omega)
    simp only [giveQ]
    have := sumD_set (giveQ k s).1 (maxQ (giveQ k s).2 (giveQ k s).2.length) ((giveQ k s).1.getD (maxQ (giveQ k s).2 (giveQ k s).2.length) 0 + 1) (by omega)
    rw [sumD_sumL, sumD_sumL, give_sum h1 h2 h0 k] at this
    rw [this]
    omega
theorem give_low (s : List Int × List (Int × Int)) (i : Nat) : ∀ k, s.1.getD i 0 ≤ (giveQ k s).1.getD i 0
  | 0 => Int.le_refl _
  | k + 1 => by
    have ih := give_low s i k
    simp only [giveQ]
    by_cases h : maxQ (giveQ k s).2 (giveQ k s).2.length = i
    · by_cases hl : i < (giveQ k s).1.length
      · rw [h, getD_set_same hl]; omega
      · rw [h, List.set_eq_of_length_le (by omega)]; exact ih
    · rw [getD_set_ne h]; exact ih
theorem fr_all {es : List (Int × Int)} {D : List Int} : ∀ k, (∀ i, i < k → (getQ es i).1 / (getQ es i).2 ≤ D.getD i 0) → frB es D k = true
  | 0, _ => rfl
  | k + 1, h => by
    simp only [frB]
    rw [fr_all k (fun i hi => h i (by omega)), decide_eq_true (h k (by omega))]
    rfl
/-- What ModelChop hands out. -/
theorem mc_law {S P : List Int} (hE : feE S P = 0) : (mcV S P).length = S.length ∧ sumL (mcV S P) = sumL P ∧ (∀ x ∈ mcV S P, 0 ≤ x ∧ x ≤ 1000000) ∧ deB S P (mcV S P) = 0 ∧ (dwE S P (mcV S P) = 0 ∨ dwE S P (mcV S P) = 3) ∧ (dwE S P (mcV S P) = 0 → iaV S P (mcV S P) = true) := by
  obtain ⟨es, h⟩ := ch_ok hE
  have hl := left_nonneg h
  have hV : mcV S P = (giveQ (sumL P - sumL (flQ es)).toNat (flQ es, rsQ es)).1 := by unfold mcV mcL; rw [if_pos hE, h.e]
  obtain ⟨k, hk⟩ : ∃ k, (sumL P - sumL (flQ es)).toNat = k := ⟨_, rfl⟩
  rw [hk] at hV
  obtain ⟨g1, g2⟩ := giveQ_len k (flQ es, rsQ es)
  have hlen : (mcV S P).length = S.length := by rw [hV, g1]; exact (flQ_len es).trans h.len
  have hsum : sumL (mcV S P) = sumL P := by
    rw [hV, give_sum (n := S.length) ((flQ_len es).trans h.len) ((rsQ_len es).trans h.len) (by have := h.n1; omega) k]
    show sumL (flQ es) + (k : Int) = sumL P
    omega
  have hnn : ∀ x ∈ mcV S P, 0 ≤ x := by rw [hV]; exact fun x hx => (giveQ_bd (B := 1000000000) (by omega) (flQ_bd h.q) k x hx).1
  have hbd : ∀ x ∈ mcV S P, 0 ≤ x ∧ x ≤ 1000000 := fun x hx => by
    have := mem_le_sum hnn x hx
    rw [sumD_sumL, hsum] at this
    have := h.sp
    exact ⟨hnn x hx, by omega⟩
  have hde : deB S P (mcV S P) = 0 := by
    unfold deB
    rw [if_pos h.pr, if_pos ⟨hlen, allIn_iff.2 hbd⟩, if_pos hsum]
  refine ⟨hlen, hsum, hbd, hde, ?_, fun h0 => ?_⟩
  · unfold dwE
    rw [if_pos hde]
    split
    · exact .inl rfl
    · exact .inr rfl
  · obtain ⟨-, es', ds, hq, hf, -⟩ := dw_ok h0
    rw [(dw_yes hde hq).1]
    have : es' = es := by rw [h.fk] at hf; injection hf with hf; exact hf.symm
    subst this
    refine fr_all _ fun i hi => ?_
    have := give_low (flQ es', rsQ es') i k
    rw [← hV] at this
    obtain ⟨x, y, hxy⟩ := get_q (qs := es') (k := i) (by rw [h.len]; exact hi)
    rw [getQ_some hxy]
    rwa [show (flQ es', rsQ es').1.getD i 0 = x / y by simp [List.getD, flQ_get hxy]] at this
/-- What ChipChop and EvenChop hand out. -/
theorem sum_map_add (a : Int) : ∀ l : List Int, sumD (l.map (· + a)) = sumD l + a * l.length
  | [] => by simp [sumD_nil]
  | x :: l => by
    rw [List.map_cons, sumD_cons, sumD_cons, sum_map_add a l, List.length_cons]
    push_cast
    rw [Int.mul_add]
    omega
theorem cc_law {S P : List Int} (h : prizesB S P = true) : (ccV S P).length = S.length ∧ sumL (ccV S P) = sumL P ∧ sumL (ecV S P) = sumL P ∧ Hid (∀ x ∈ ccV S P, -4000000000 ≤ x ∧ x ≤ 4000000000) ∧ Hid (∀ x ∈ ecV S P, -4000000000 ≤ x ∧ x ≤ 4000000000) := by
  obtain ⟨s0, s1, n0, n1, m0, m1⟩ := prizes_sum h
  obtain ⟨l0, l1, l2⟩ := last_facts h
  have hok := cc_ok h
  have hok2 := ones_ok (u := sumL P) (n := S.length) s0 (by omega) (by omega) (by omega)
  have hV : ccV S P = (divV (sumL P - lastV S P * S.length) S).map (· + lastV S P) := by unfold ccV; rw [if_pos h]
  have hV2 : ecV S P = divV (sumL P) (List.replicate S.length 1) := by unfold ecV; rw [if_pos h]
  have hs := divV_sum hok
  have hp := Int.mul_nonneg l0 (show (0 : Int) ≤ S.length by omega)
  refine ⟨by rw [hV, List.length_map, divV_len], ?_, by rw [hV2]; exact divV_sum hok2, Lib.hid fun x hx => ?_, Lib.hid fun x hx => ?_⟩
  · rw [hV]
    have := sum_map_add (lastV S P) (divV (sumL P - lastV S P * S.length) S)
    rw [sumD_sumL, sumD_sumL, hs, divV_len] at this
    rw [this]
    omega
  · rw [hV] at hx
    obtain ⟨y, hy, rfl⟩ := List.mem_map.1 hx
    have := divV_small hok (by omega) y hy
    omega
  · rw [hV2] at hx
    have := divV_small hok2 (by simp; omega) x hx
    omega
/-- The least of the differences. -/
theorem best_least {ds : List (Int × Int)} {n : Nat} (hg : ∀ j, j < n → okQ (getQ ds j)) : ∀ k, k ≤ n → 0 < k → ∀ j, j < k → rv (getQ ds (bestQ ds k)) ≤ rv (getQ ds j)
  | 0, _, h, _, _ => absurd h (Nat.lt_irrefl _)
  | 1, hk, _, j, hj => by
    obtain rfl : j = 0 := by omega
    rw [bestQ_one]
    exact Rat.le_refl
  | k + 2, hk, _, j, hj => by
    have ih := best_least hg (k + 1) (by omega) (by omega)
    have hb := bestQ_lt ds (Nat.le_refl (k + 1)) (by omega)
    have g1 := hg (k + 1) (by omega)
    have g2 := hg (bestQ ds (k + 1)) (by omega)
    rw [show bestQ ds (k + 2) = if cmpI ((getQ ds (k + 1)).1 * (getQ ds (bestQ ds (k + 1))).2) ((getQ ds (bestQ ds (k + 1))).1 * (getQ ds (k + 1)).2) < 0 then k + 1 else bestQ ds (k + 1) from rfl]
    by_cases hc : (getQ ds (k + 1)).1 * (getQ ds (bestQ ds (k + 1))).2 < (getQ ds (bestQ ds (k + 1))).1 * (getQ ds (k + 1)).2
    · rw [if_pos (by unfold cmpI; rw [if_pos hc]; decide)]
      have hle := (rv_cross g1 g2).2 (by omega)
      by_cases hjk : j = k + 1
      · subst hjk; exact Rat.le_refl
      · exact Rat.le_trans hle (ih j (by omega))
    · rw [if_neg (by unfold cmpI; rw [if_neg hc]; split <;> decide)]
      by_cases hjk : j = k + 1
      · subst hjk; exact (rv_cross g2 g1).2 (by omega)
      · exact ih j (by omega)
theorem worst_law {S P D : List Int} (h : dwE S P D = 0) : ∃ k : Nat, wdV S P D = k ∧ k < S.length ∧ eoE S P k = 0 ∧ D.length = S.length ∧ isR (eoN S P k) (eoD S P k) = true ∧ isR (D.getD k 0) 1 = true ∧ ¬ (0 < cmpI (D.getD k 0 * eoD S P k) (eoN S P k * 1)) := by
  obtain ⟨h0, es, ds, hq, hf, hd⟩ := dw_ok h
  obtain ⟨h1, hDl, hD, hDs⟩ := de_ok h0
  have hfe : feE S P = 0 := by unfold feE; rw [if_pos h1, hf]; rfl
  obtain ⟨es', hok⟩ := ch_ok hfe
  have : es' = es := by have := hok.fk; rw [hf] at this; injection this with this; exact this.symm
  subst this
  have n1 := hok.n1
  have hds : ∀ j, j < S.length → okQ (getQ ds j) ∧ rv (getQ ds j) = (D.getD j 0 : Rat) - rv (getQ es' j) := by
    intro j hj
    obtain ⟨q, e1, e2⟩ := dfK_get hd hj
    obtain ⟨g1, g2⟩ := eq_good hok hj
    have hpos : 0 < (getQ es' j).2 := by have := (Sm.of g1).d0; omega
    obtain ⟨k1, k2⟩ := ratQ_val hpos e1
    rw [getQ_some e2]
    refine ⟨k1, ?_⟩
    rw [k2]
    unfold rv
    have hne : ((getQ es' j).2 : Rat) ≠ 0 := by
      have : (0 : Rat) < (getQ es' j).2 := g1.pos
      grind
    have hinv := Rat.mul_inv_cancel _ hne
    push_cast
    grind
  obtain ⟨b, hb⟩ : ∃ b, bestQ ds S.length = b := ⟨_, rfl⟩
  have hbl : b < S.length := by rw [← hb]; exact bestQ_lt ds (Nat.le_refl _) (by omega)
  have hmin : ∀ j, j < S.length → rv (getQ ds b) ≤ rv (getQ ds j) := by
    intro j hj
    rw [← hb]
    exact best_least (fun j hj => (hds j hj).1) S.length (Nat.le_refl _) (by omega) j hj
  have htot : sumR (List.range S.length) (fun j => rv (getQ ds j)) = 0 := by
    have e1 : sumR (List.range S.length) (fun j => rv (getQ ds j) + rv (getQ es' j)) = (sumL P : Rat) := by
      rw [← hDs, sumL_tot]
      unfold totR
      have e2 : D = (List.range S.length).map fun j => D.getD j 0 := by
        apply List.ext_getElem?
        intro i
        by_cases hi : i < S.length
        · rw [get_getD (by omega)]; simp [hi]
        · rw [List.getElem?_eq_none (by omega), List.getElem?_eq_none (by simp; omega)]
      rw [show sumR D (fun x => (x : Rat)) = sumR ((List.range S.length).map fun j => D.getD j 0) (fun x => (x : Rat)) by rw [← e2], sumR_map]
      refine sumR_congr fun j hj => ?_
      rw [(hds j (List.mem_range.1 hj)).2]
      grind
    rw [sumR_add, eq_sum hok] at e1
    grind
  have hle : rv (getQ ds b) ≤ 0 := by
    by_cases hc : rv (getQ ds b) ≤ 0
    · exact hc
    · exfalso
      have hp : 0 < rv (getQ ds b) := Rat.not_le.1 hc
      have hnn : ∀ l : List Nat, (∀ j ∈ l, j < S.length) → 0 ≤ sumR l fun j => rv (getQ ds j) := by
        intro l hl
        have := sumR_le (l := l) (f := fun _ => (0 : Rat)) (g := fun j => rv (getQ ds j)) (fun j hj => Rat.le_trans (Rat.le_of_lt hp) (hmin j (hl j hj)))
        rwa [sumR_zero] at this
      obtain ⟨m, hm⟩ : ∃ m, S.length = m + 1 := ⟨S.length - 1, by omega⟩
      rw [hm, List.range_succ, sumR_app, sumR_cons, sumR_nil] at htot
      have a := hnn (List.range m) (fun j hj => by have := List.mem_range.1 hj; omega)
      have c := hmin m (by omega)
      grind
  obtain ⟨g1, g2⟩ := eq_good hok hbl
  obtain ⟨q, e1, e2⟩ := feK_get hf hbl
  have hgq := getQ_some e2
  rw [hgq] at g1 g2
  have d1 := (hds b hbl).2
  rw [hgq] at d1
  have hD1 := hD _ (getD_mem (l := D) (j := b) (by omega))
  have hDR : okQ (D.getD b 0, 1) := okQ_whole (by omega) (by omega)
  have hcmp : D.getD b 0 * q.2 ≤ q.1 * 1 := by
    refine (rv_cross hDR g1).1 ?_
    rw [rv_whole]
    grind
  have hqo : eqB S P (b : Int) = 0 := by
    unfold eqB
    rw [if_pos h1, if_pos (inB_iff.2 ⟨by omega, by omega⟩)]
  have ho : eoQ S P (b : Int) = some q := by unfold eoQ; rw [Int.toNat_natCast]; exact e1
  refine ⟨b, by rw [(dw_yes h0 hq).2, hb], hbl, ?_, hDl, ?_, hDR, ?_⟩
  · unfold eoE; rw [if_pos hqo, ho]; rfl
  · unfold eoN eoD; rw [if_pos hqo, if_pos hqo, ho]; exact g1
  · unfold eoN eoD
    rw [if_pos hqo, if_pos hqo, ho]
    show ¬ 0 < cmpI (D.getD b 0 * q.2) (q.1 * 1)
    unfold cmpI
    split
    · decide
    · rw [if_neg (by omega)]; decide
end Go.Proofs.Ythpgkngkmmameaa
namespace Go.Proofs.Ythpgkngkmmameaa
open Go.RowKit
set_option linter.unusedVariables false
theorem RQ.alloc {w : World} {A : Option Addr} {qs : List (Int × Int)} (h : RQ w A qs) (o : Obj) : RQ (w.alloc o) A qs := h.below (below_al w o)
theorem tour_fact {S P : List Int} (hE : feE S P = 0) : (feL S P).length = S.length ∧ S.length ≤ 5 ∧ (∀ x ∈ S, -4000000000 ≤ x ∧ x ≤ 4000000000) ∧ (∀ x ∈ P, -4000000000 ≤ x ∧ x ≤ 4000000000) ∧ (-1000000000 ≤ sumL P ∧ sumL P ≤ 1000000000) ∧
    (∀ (j : Nat) (x y : Int), (feL S P)[j]? = some (x, y) → isR x y = true ∧ icm P S j = some (x, y)) ∧
    (∀ (i k : Nat) (s t x y x' y' : Int), (feL S P)[i]? = some (x, y) → (feL S P)[k]? = some (x', y') → S[i]? = some s → S[k]? = some t → t ≤ s → ¬ cmpI (x * y') (x' * y) < 0) ∧
    ∀ q, totQ (fun i => icm P S i) S.length = some q → q = (sumL P, 1) := by
  have hB : prizesB S P = true := by
    by_cases h : prizesB S P = true
    · exact h
    · exfalso; unfold feE at hE; rw [if_neg h] at hE; exact absurd hE (by decide)
  obtain ⟨es, hk, hl⟩ := feE_zero hB hE
  have hlen := feK_len hk
  have hF := (prizesB_iff.1 hB).1
  obtain ⟨f1, f2, hfb⟩ := fieldB_iff.1 hF
  have hok := prizes_ok (i := 0) hB (by omega)
  obtain ⟨p0, p1⟩ := hok.psum
  have p5 := (prizesB_iff.1 hB).2.2.1
  rw [hl]
  have hget : ∀ (j : Nat) (x y : Int), es[j]? = some (x, y) → isR x y = true ∧ icm P S j = some (x, y) := by
    intro j x y hj
    have hj' : j < S.length := by have := (List.getElem?_eq_some_iff.1 hj).1; omega
    obtain ⟨q, h1, h2⟩ := feK_get hk hj'
    rw [hj] at h2
    injection h2 with h2
    subst h2
    exact ⟨(icm_nonneg hB hj' h1).2, h1⟩
  refine ⟨hlen, by omega, fun x hx => by have := hfb x hx; omega, hok.bigP.out, ⟨by omega, by omega⟩, hget, ?_, fun q hq => icm_total (field_posL hB) (by omega) (by omega) (by omega) hq⟩
  intro i k s t x y x' y' hi hk' hs ht hst
  have hi' : i < S.length := (List.getElem?_eq_some_iff.1 hs).1
  have hk'' : k < S.length := (List.getElem?_eq_some_iff.1 ht).1
  have ho := icm_order (prizes_prizeL hB) (field_posL hB) hi' hk'' (by simp [List.getD, hs, ht]; exact hst) (hget i x y hi).2 (hget k x' y' hk').2
  have ho' : x' * y ≤ x * y' := ho
  unfold cmpI
  rw [if_neg (by omega)]
  split <;> omega
end Go.Proofs.Ythpgkngkmmameaa
namespace Go.Proofs.Ythpgkngkmmameaa
open Go.RowKit
set_option linter.unusedVariables false
theorem spec_DrawChipChop_c (A : Option Addr) (n c : Nat) (bs : List Int) (w : World) (hn : bs.length = n) (hm : n ≤ 1048576) (hr : BR w A bs) :
    Calls Try.prog 33 #[.slice A n c] w fun e w' => ∃ (A : Option Addr) (n c : Nat) (zs : List Int) (B : Option Addr) (m d : Nat) (ps : List Int), e = .returned (.tuple #[.slice A n c, .slice B m d]) ∧ DP w w' A n c zs B m d ps := by
  go_enter Try.func33, Try.ntmps33
  go_wp2_with fail
  refine (spec_DrawArePrizes_c A n c bs _ hn hm hr).mono ?_
  rintro e w1 ⟨A1, n1, c1, zs, B1, m1, d1, ps, rfl, hD⟩
  have HD := Lib.hid hD
  clear hD hn
  go_wp2_with fail
  go_ret2
  exact ⟨_, _, _, _, _, _, _, _, rfl, HD.out⟩
theorem spec_DrawArePrizes_o (A : Option Addr) (n c : Nat) (bs : List Int) (w : World) (hn : bs.length = n) (hm : n ≤ 1048576) (hr : BR w A bs) :
    Calls Try.prog 102 #[.slice A n c] w fun e w' => ∃ (A : Option Addr) (n c : Nat) (zs : List Int) (B : Option Addr) (m d : Nat) (ps : List Int), e = .returned (.tuple #[.slice A n c, .slice B m d]) ∧ DP w w' A n c zs B m d ps ∧ OI w' w.heap.size w'.heap.size A zs ∧ OI w' w.heap.size w'.heap.size B ps := by
  go_enter Try.func102, Try.ntmps102
  go_wp2_with fail
  refine (spec_l01From_c A n c bs _ hn hm hr).mono ?_
  rintro e w0 ⟨g, rfl, hs0, hb0⟩
  obtain ⟨lo, hlo⟩ : ∃ lo, lo = w.heap.size := ⟨_, rfl⟩
  rw [← hlo] at hs0
  have HLO := Lib.hid hlo
  have HB0 := Lib.hid hb0
  have g0 := hs0.lt.2
  clear hlo hb0
  go_wp2_with fail
  refine (spec_l29Stacks_c _ lo g hs0).mono ?_
  rintro e w1 ⟨G, n1, c1, zs, rfl, hl, a1, b1, hc, ho, hs1, hk1⟩
  have HO := Lib.hid ho
  have z1 := hk1.size
  clear ho
  go_wp2_with fail
  refine (spec_l29Prizes_c _ lo g G n1 c1 hs1 a1 b1).mono ?_
  rintro e w2 ⟨G2, n2, c2, ps, rfl, hl2, a2, b2, hc2, ho2, hs2, hk2⟩
  have HO2 := Lib.hid ho2
  clear ho2
  go_wp2_with fail
  go_ret2
  rw [HLO.out] at hs0
  have z2 := hk2.size
  have z0 := HB0.out.size
  have O1 := Lib.hid ((HO.out.kept hk2 (.inl (by omega))).widen (lo' := w.heap.size) (hi' := w2.heap.size) (by omega) z2)
  have O2 := Lib.hid (HO2.out.widen (lo' := w.heap.size) (hi' := w2.heap.size) (by omega) (Nat.le_refl _))
  exact ⟨G, n1, c1, zs, G2, n2, c2, ps, rfl, ⟨hl, by omega, Lib.hid O1.out.ri, hl2, by omega, hc2, Lib.hid O2.out.ri, src_below hs0 HB0.out (hk1.trans hk2)⟩, O1.out, O2.out⟩
theorem OI.below_base {w w' : World} {lo hi base : Nat} {A : Option Addr} {zs : List Int} (h : OI w lo hi A zs) (hb : Below base w w') (hh : hi ≤ base) : OI w' lo hi A zs := by
  rcases h with h | ⟨b, off, e, l1, l2, h2, h3, h4⟩
  · exact .inl h
  · have hk : w'.heap[b]? = w.heap[b]? := hb.block b (by omega)
    exact .inr ⟨b, off, e, l1, l2, Nat.lt_of_lt_of_le h2 hb.size, fun j x hx => (World.cell?_of_block (a := ⟨b, off + j, none⟩) hk).trans (h3 j x hx), fun j => (World.frozen?_of_block (a := ⟨b, j, none⟩) hk).trans (h4 j)⟩
theorem deal_ok {S P V : List Int} {E : Int} (h : V = mcV S P ∧ E = feE S P ∨ V = ecV S P ∧ E = ecE S P) (hE : E = 0) : V.length = S.length ∧ 2 ≤ S.length ∧ S.length ≤ 5 ∧ ∀ x ∈ V, -4000000000 ≤ x ∧ x ≤ 4000000000 := by
  rcases h with ⟨rfl, rfl⟩ | ⟨rfl, rfl⟩
  · obtain ⟨a, -, b, -⟩ := mc_law hE
    obtain ⟨es, h⟩ := ch_ok hE
    exact ⟨a, h.n1, h.n2, fun x hx => by have := b x hx; omega⟩
  · have hp : prizesB S P = true := by
      by_cases hp : prizesB S P = true
      · exact hp
      · unfold ecE at hE; rw [if_neg hp] at hE; exact absurd hE (by decide)
    obtain ⟨-, -, -, -, b⟩ := cc_law hp
    obtain ⟨f1, f2, -⟩ := fieldB_iff.1 (prizesB_iff.1 hp).1
    exact ⟨by unfold ecV; rw [if_pos hp, divV_len]; simp, f1, f2, b.out⟩
/-- Three lists that are drawn. -/
structure DW (w w' : World) (A : Option Addr) (n c : Nat) (zs : List Int) (B : Option Addr) (m d : Nat) (ps : List Int) (C : Option Addr) (q f : Nat) (ds : List Int) : Prop extends DP w w' A n c zs B m d ps where
  l3 : Hid (ds.length = q)
  n3 : q ≤ 1048576
  r3 : Hid (RI w' C ds)
def DWE (w : World) (e : Ending) (w' : World) : Prop := ∃ (A : Option Addr) (n c : Nat) (zs : List Int) (B : Option Addr) (m d : Nat) (ps : List Int) (C : Option Addr) (l f : Nat) (ds : List Int), e = .returned (.tuple #[.slice A n c, .slice B m d, .slice C l f]) ∧ DW w w' A n c zs B m d ps C l f ds
theorem DWE.mk {w w' : World} {A : Option Addr} {n c : Nat} {zs : List Int} {B : Option Addr} {m d : Nat} {ps : List Int} {C : Option Addr} {l f : Nat} {ds : List Int} (h1 : Hid (zs.length = n)) (h2 : n ≤ 1048576) (h3 : RI w' A zs) (h4 : Hid (ps.length = m)) (h5 : m ≤ 1048576) (h6 : m ≤ d) (h7 : RI w' B ps) (h8 : Below w.heap.size w w') (h9 : Hid (ds.length = l)) (h10 : l ≤ 1048576) (h11 : RI w' C ds) :
    DWE w (.returned (.tuple #[.slice A n c, .slice B m d, .slice C l f])) w' := ⟨A, n, c, zs, B, m, d, ps, C, l, f, ds, rfl, ⟨⟨h1, h2, Lib.hid h3, h4, h5, h6, Lib.hid h7, h8⟩, h9, h10, Lib.hid h11⟩⟩
set_option maxHeartbeats 4000000 in
theorem spec_DrawWorstDeal_c (A : Option Addr) (n c : Nat) (bs : List Int) (w : World) (hn : bs.length = n) (hm : n ≤ 1048576) (hr : BR w A bs) :
    Calls Try.prog 39 #[.slice A n c] w (DWE w) := by
  go_enter Try.func39, Try.ntmps39
  go_wp2_with fail
  refine (spec_l01From_c A n c bs _ hn hm hr).mono ?_
  rintro e w0 ⟨g, rfl, hs0, hb0⟩
  obtain ⟨lo, hlo⟩ : ∃ lo, lo = w.heap.size := ⟨_, rfl⟩
  rw [← hlo] at hs0
  have HLO := Lib.hid (show ∀ w', Kept g (g + 1) w0 w' → Below w.heap.size w w' from fun w' hk => src_below (by rw [hlo] at hs0; exact hs0) hb0 hk)
  have hgl := hs0.lt.2
  have HBR := Lib.hid (hr.below hb0)
  have z0 := hb0.size
  clear hlo hb0 hr
  go_wp2_with fail
  refine (spec_DrawArePrizes_o A n c bs _ hn hm HBR.out).mono ?_
  rintro e w1 ⟨A1, n1, c1, zs, B1, m1, d1, ps, rfl, hD, ho1, ho2⟩
  have HS1 := Lib.hid (hs0.below hD.below)
  have HK1 := Lib.hid (Kept.of_below hD.below g (g + 1))
  have HL1 := hD.l
  have hn1 := hD.n1
  have HL2 := hD.l'
  have hm1 := hD.m1
  have hmd := hD.md
  have HR1 := Lib.hid ho1
  have HR2 := Lib.hid ho2
  have z1 := hD.below.size
  have g1 : g < w1.heap.size := Nat.lt_of_lt_of_le hgl z1
  clear hD hs0 hn HBR ho1 ho2
  go_wp2_with fail
  refine (spec_EvenChop_r A1 n1 c1 zs B1 m1 d1 ps _ HL1.out hn1 HR1.out.ri HL2.out hm1 HR2.out.ri).mono ?_
  rintro e w2 ⟨G, l, f, rfl, hvl, hvm, hrow, b2⟩
  have HS2 := Lib.hid (HS1.out.below b2)
  have HK2 := Lib.hid (HK1.out.trans (Kept.of_below b2 g (g + 1)))
  replace HR1 := Lib.hid (HR1.out.below b2)
  replace HR2 := Lib.hid (HR2.out.below b2)
  have z2 := b2.size
  clear b2 HS1 HK1
  go_wp2_with fail
  refine (spec_l01Next_c _ lo g _ HS2.out (by omega)).mono ?_
  rintro e w3 ⟨r3, rfl, p3, q3, hs3, hk3⟩
  have HS3 := Lib.hid hs3
  have HK3 := Lib.hid (HK2.out.trans hk3)
  have HROW := Lib.hid (Row.keptS hrow hk3 g1)
  replace HR1 := Lib.hid (HR1.out.kept hk3 (.inl (by omega)))
  replace HR2 := Lib.hid (HR2.out.kept hk3 (.inl (by omega)))
  have z3 := hk3.size
  clear hs3 hk3 hrow HS2 HK2
  by_cases t3 : r3 = 0
  · go_wp2_with fail
    refine (spec_ModelChop_r A1 n1 c1 zs B1 m1 d1 ps _ HL1.out hn1 HR1.out.ri HL2.out hm1 HR2.out.ri hmd).mono ?_
    rintro e w4 ⟨G', l', f', rfl, hvl', hvm', hrow', b4⟩
    have HS4 := Lib.hid (HS3.out.below b4)
    have HK4 := Lib.hid (HK3.out.trans (Kept.of_below b4 g (g + 1)))
    replace HR1 := Lib.hid (HR1.out.below b4)
    replace HR2 := Lib.hid (HR2.out.below b4)
    have z4 := b4.size
    have HROW4 := Lib.hid hrow'
    have HOK := Lib.hid (deal_ok (S := zs) (P := ps) (V := mcV zs ps) (E := feE zs ps) (.inl ⟨rfl, rfl⟩))
    obtain ⟨V, hV⟩ : ∃ V, mcV zs ps = V := ⟨_, rfl⟩
    obtain ⟨E, hE⟩ : ∃ E, feE zs ps = E := ⟨_, rfl⟩
    rw [hV, hE] at HOK
    rw [hV] at hvl' HROW4
    rw [hE]
    clear b4 hrow' hV hE HROW hvl HS3 HK3
    by_cases hE0 : E = 0
    · subst hE0
      obtain ⟨v1, v2, v3, v4⟩ := HOK.out rfl
      have HV4 := Lib.hid v4
      have HVZ := Lib.hid v1
      have hl2 : 2 ≤ l' := by have := hvl'.out; omega
      have hl5 : l' ≤ 5 := by have := hvl'.out; omega
      have HA := Lib.hid (Row.addr HROW4.out (by omega))
      clear v1 v4 HOK
      obtain ⟨gd, rfl, hgd⟩ := HA.out
      clear HA
      have gdl := (OI.lt HROW4.out.oi (by have := hvl'.out; omega)).2.2
      go_wp2_with fail
      refine (spec_l01Next_c _ lo g _ HS4.out (by omega)).mono ?_
      rintro e w5 ⟨r5, rfl, p5, q5, hs5, hk5⟩
      have r5l : r5 < l' := by omega
      obtain ⟨j, rfl⟩ : ∃ j : Nat, r5 = (j : Int) := ⟨r5.toNat, by omega⟩
      have HS5 := Lib.hid hs5
      have HK5 := Lib.hid (HK4.out.trans hk5)
      have HROW5 := Lib.hid (Row.keptS HROW4.out hk5 (by omega))
      replace HR1 := Lib.hid (HR1.out.kept hk5 (.inl (by omega)))
      replace HR2 := Lib.hid (HR2.out.kept hk5 (.inl (by omega)))
      have z5 := hk5.size
      clear hs5 hk5 q5 HROW4 HS4 HK4
      go_wp2_with fail
      refine (spec_l01Next_c _ lo g _ HS5.out (by omega)).mono ?_
      rintro e w6 ⟨r6, rfl, p6, q6, hs6, hk6⟩
      have HK6 := Lib.hid (HK5.out.trans hk6)
      have HROW6 := Lib.hid (Row.keptS HROW5.out hk6 (by omega))
      replace HR1 := Lib.hid (HR1.out.kept hk6 (.inl (by omega)))
      replace HR2 := Lib.hid (HR2.out.kept hk6 (.inl (by omega)))
      have z6 := hk6.size
      have gd6 : gd < w6.heap.size := by omega
      clear hs6 hk6 q6 HROW5 HS5 HK5
      obtain ⟨x, hx⟩ := get_some (zs := V) (k := j) (by have := hvl'.out; omega)
      obtain ⟨x0, x1⟩ := HV4.out x (List.mem_of_getElem? hx)
      obtain ⟨cx, fx⟩ := HROW6.out.oi.cellX hx
      rw [Nat.zero_add] at cx fx
      have HX := Lib.hid hx
      have jl : (j : Int) < (l' : Int) := by omega
      have j0 : (0 : Int) ≤ (j : Int) := by omega
      clear hx
      have hgw : ∀ u : Value, Kept gd (gd + 1) w6 (w6.setCell ⟨gd, j, none⟩ u) := fun u => Kept.at_ gd j u rfl
      have HGW := Lib.hid hgw
      have SETR := Lib.hid (fun y : Int => OI.set HROW6.out.oi (j := j) (by have := hvl'.out; omega) y)
      have HR16 := Lib.hid (fun u : Value => HR1.out.kept (HGW.out u) (.inr (by omega)))
      have HR26 := Lib.hid (fun u : Value => HR2.out.kept (HGW.out u) (.inr (by omega)))
      have HBW := Lib.hid (HLO.out _ HK6.out)
      have hww : w.heap.size ≤ gd := by omega
      have HB6 := Lib.hid (fun u : Value => HBW.out.setCell (p := ⟨gd, j, none⟩) hww u)
      clear hgw
      by_cases t0 : r6 = 0
      · go_wp2_with fail
        go_ret3
        have := SETR.out (x + 1)
        rw [Nat.zero_add] at this
        exact DWE.mk HL1 hn1 (HR16.out _).ri HL2 hm1 hmd (HR26.out _).ri (HB6.out _) (Lib.hid (by rw [List.length_set]; exact hvl'.out)) hvm' this.ri
      by_cases t1 : r6 = 1
      · go_wp2_with (at_builtin; refine wpList_append1 rfl _ _ rfl w3.heap.size _ l' f' V rfl (Row.alloc HROW6.out _) w6.heap.size 1 0 rfl (by simp) (by omega) (by simp; omega) ?_; intro g7 c7 w7 hr7 hb7 hg7; have HR7 := Lib.hid hr7; have HB7 := Lib.hid hb7; clear hr7 hb7 hg7)
        go_ret3
        have O1 := (HR1.out.below (below_al w6 (.cells #[.int .i64 0] 2))).below_base HB7.out (by omega)
        have O2 := (HR2.out.below (below_al w6 (.cells #[.int .i64 0] 2))).below_base HB7.out (by omega)
        exact DWE.mk HL1 hn1 O1.ri HL2 hm1 hmd O2.ri ((HBW.out.alloc HBW.out.size _).trans (HB7.out.mono (by omega))) (Lib.hid (by simpa using hvl'.out)) (by omega) HR7.out.oi.ri
      by_cases t2 : r6 = 2
      · go_wp2_with fail
        go_ret3
        have := SETR.out (-1)
        rw [Nat.zero_add] at this
        exact DWE.mk HL1 hn1 (HR16.out _).ri HL2 hm1 hmd (HR26.out _).ri (HB6.out _) (Lib.hid (by rw [List.length_set]; exact hvl'.out)) hvm' this.ri
      go_wp2_with fail
      go_ret3
      exact DWE.mk HL1 hn1 HR1.out.ri HL2 hm1 hmd HR2.out.ri HBW.out hvl' hvm' HROW6.out.oi.ri
    · have hB : (E == 0) = false := by simp [hE0]
      have hB2 : (E != 0) = true := by simp [hE0]
      have HBW := Lib.hid (HLO.out _ HK4.out)
      go_wp2_with fail
      go_ret3
      exact DWE.mk HL1 hn1 (HR1.out.below (below_al w4 _)).ri HL2 hm1 hmd (HR2.out.below (below_al w4 _)).ri (HBW.out.alloc HBW.out.size _) (Lib.hid rfl) (by omega) (RI.lit w4 _ [1, 2] rfl)
  · have t3' : (r3 == 0) = false := by simp [t3]
    have HOK := Lib.hid (deal_ok (S := zs) (P := ps) (V := ecV zs ps) (E := ecE zs ps) (.inr ⟨rfl, rfl⟩))
    obtain ⟨V, hV⟩ : ∃ V, ecV zs ps = V := ⟨_, rfl⟩
    obtain ⟨E, hE⟩ : ∃ E, ecE zs ps = E := ⟨_, rfl⟩
    rw [hV, hE] at HOK
    rw [hV] at hvl HROW
    rw [hE]
    clear hV hE
    by_cases hE0 : E = 0
    · subst hE0
      obtain ⟨v1, v2, v3, v4⟩ := HOK.out rfl
      have HV4 := Lib.hid v4
      have HVZ := Lib.hid v1
      have hl2 : 2 ≤ l := by have := hvl.out; omega
      have hl5 : l ≤ 5 := by have := hvl.out; omega
      have HA := Lib.hid (Row.addr HROW.out (by omega))
      clear v1 v4 HOK
      obtain ⟨gd, rfl, hgd⟩ := HA.out
      clear HA
      have gdl := (OI.lt HROW.out.oi (by have := hvl.out; omega)).2.2
      go_wp2_with fail
      refine (spec_l01Next_c _ lo g _ HS3.out (by omega)).mono ?_
      rintro e w5 ⟨r5, rfl, p5, q5, hs5, hk5⟩
      have r5l : r5 < l := by omega
      obtain ⟨j, rfl⟩ : ∃ j : Nat, r5 = (j : Int) := ⟨r5.toNat, by omega⟩
      have HS5 := Lib.hid hs5
      have HK5 := Lib.hid (HK3.out.trans hk5)
      have HROW5 := Lib.hid (Row.keptS HROW.out hk5 (by omega))
      replace HR1 := Lib.hid (HR1.out.kept hk5 (.inl (by omega)))
      replace HR2 := Lib.hid (HR2.out.kept hk5 (.inl (by omega)))
      have z5 := hk5.size
      clear hs5 hk5 q5 HROW HS3 HK3
      go_wp2_with fail
      refine (spec_l01Next_c _ lo g _ HS5.out (by omega)).mono ?_
      rintro e w6 ⟨r6, rfl, p6, q6, hs6, hk6⟩
      have HK6 := Lib.hid (HK5.out.trans hk6)
      have HROW6 := Lib.hid (Row.keptS HROW5.out hk6 (by omega))
      replace HR1 := Lib.hid (HR1.out.kept hk6 (.inl (by omega)))
      replace HR2 := Lib.hid (HR2.out.kept hk6 (.inl (by omega)))
      have z6 := hk6.size
      have gd6 : gd < w6.heap.size := by omega
      clear hs6 hk6 q6 HROW5 HS5 HK5
      obtain ⟨x, hx⟩ := get_some (zs := V) (k := j) (by have := hvl.out; omega)
      obtain ⟨x0, x1⟩ := HV4.out x (List.mem_of_getElem? hx)
      obtain ⟨cx, fx⟩ := HROW6.out.oi.cellX hx
      rw [Nat.zero_add] at cx fx
      have HX := Lib.hid hx
      have jl : (j : Int) < (l : Int) := by omega
      have j0 : (0 : Int) ≤ (j : Int) := by omega
      clear hx
      have hgw : ∀ u : Value, Kept gd (gd + 1) w6 (w6.setCell ⟨gd, j, none⟩ u) := fun u => Kept.at_ gd j u rfl
      have HGW := Lib.hid hgw
      have SETR := Lib.hid (fun y : Int => OI.set HROW6.out.oi (j := j) (by have := hvl.out; omega) y)
      have HR16 := Lib.hid (fun u : Value => HR1.out.kept (HGW.out u) (.inr (by omega)))
      have HR26 := Lib.hid (fun u : Value => HR2.out.kept (HGW.out u) (.inr (by omega)))
      have HBW := Lib.hid (HLO.out _ HK6.out)
      have hww : w.heap.size ≤ gd := by omega
      have HB6 := Lib.hid (fun u : Value => HBW.out.setCell (p := ⟨gd, j, none⟩) hww u)
      clear hgw
      by_cases t0 : r6 = 0
      · go_wp2_with fail
        go_ret3
        have := SETR.out (x + 1)
        rw [Nat.zero_add] at this
        exact DWE.mk HL1 hn1 (HR16.out _).ri HL2 hm1 hmd (HR26.out _).ri (HB6.out _) (Lib.hid (by rw [List.length_set]; exact hvl.out)) hvm this.ri
      by_cases t1 : r6 = 1
      · go_wp2_with (at_builtin; refine wpList_append1 rfl _ _ rfl w1.heap.size _ l f V rfl (Row.alloc HROW6.out _) w6.heap.size 1 0 rfl (by simp) (by omega) (by simp; omega) ?_; intro g7 c7 w7 hr7 hb7 hg7; have HR7 := Lib.hid hr7; have HB7 := Lib.hid hb7; clear hr7 hb7 hg7)
        go_ret3
        have O1 := (HR1.out.below (below_al w6 (.cells #[.int .i64 0] 2))).below_base HB7.out (by omega)
        have O2 := (HR2.out.below (below_al w6 (.cells #[.int .i64 0] 2))).below_base HB7.out (by omega)
        exact DWE.mk HL1 hn1 O1.ri HL2 hm1 hmd O2.ri ((HBW.out.alloc HBW.out.size _).trans (HB7.out.mono (by omega))) (Lib.hid (by simpa using hvl.out)) (by omega) HR7.out.oi.ri
      by_cases t2 : r6 = 2
      · go_wp2_with fail
        go_ret3
        have := SETR.out (-1)
        rw [Nat.zero_add] at this
        exact DWE.mk HL1 hn1 (HR16.out _).ri HL2 hm1 hmd (HR26.out _).ri (HB6.out _) (Lib.hid (by rw [List.length_set]; exact hvl.out)) hvm this.ri
      go_wp2_with fail
      go_ret3
      exact DWE.mk HL1 hn1 HR1.out.ri HL2 hm1 hmd HR2.out.ri HBW.out hvl hvm HROW6.out.oi.ri
    · have hB : (E == 0) = false := by simp [hE0]
      have hB2 : (E != 0) = true := by simp [hE0]
      have HBW := Lib.hid (HLO.out _ HK3.out)
      go_wp2_with fail
      go_ret3
      exact DWE.mk HL1 hn1 (HR1.out.below (below_al w3 _)).ri HL2 hm1 hmd (HR2.out.below (below_al w3 _)).ri (HBW.out.alloc HBW.out.size _) (Lib.hid rfl) (by omega) (RI.lit w3 _ [1, 2] rfl)
theorem spec_DrawIsAcceptable_c (A : Option Addr) (n c : Nat) (bs : List Int) (w : World) (hn : bs.length = n) (hm : n ≤ 1048576) (hr : BR w A bs) :
    Calls Try.prog 40 #[.slice A n c] w (DWE w) := by
  go_enter Try.func40, Try.ntmps40
  go_wp2_with fail
  refine (spec_DrawWorstDeal_c A n c bs _ hn hm hr).mono ?_
  rintro e w1 ⟨A1, n1, c1, zs, B1, m1, d1, ps, C1, l1, f1, ds, rfl, hD⟩
  have HD := Lib.hid hD
  clear hD hn
  go_wp2_with fail
  go_ret3
  exact ⟨_, _, _, _, _, _, _, _, _, _, _, _, rfl, HD.out⟩
end Go.Proofs.Ythpgkngkmmameaa
namespace Go.Proofs.Ythpgkngkmmameaa
open Go.RowKit
set_option linter.unusedVariables false
set_option maxRecDepth 100000 in
set_option maxHeartbeats 8000000 in
theorem impl_ModelChop_c (A : Option Addr) (n c : Nat) (S : List Int) (B : Option Addr) (m d : Nat) (P : List Int) (w : World) (hn : S.length = n) (hm : n ≤ 1048576) (hr : RI w A S) (hn' : P.length = m) (hm' : m ≤ 1048576) (hr' : RI w B P) (hmd : m ≤ d) :
    Calls Try.prog 15 #[.slice A n c, .slice B m d] w (LR w (mcV S P) (feE S P)) := by
  have HN := Lib.hid hn
  have HN' := Lib.hid hn'
  clear hn hn'
  by_cases hE : feE S P = 0
  · obtain ⟨es, hok⟩ := ch_ok hE
    have n2 := hok.n1
    have n5 := hok.n2
    have sp := hok.sp
    have HE := Lib.hid hE
    have HL := Lib.hid hok.e
    have HLen := Lib.hid (show es.length = n by rw [hok.len]; exact HN.out)
    rw [HN.out] at n2 n5
    have HV := Lib.hid (show mcV S P = (giveQ (sumL P - sumL (flQ es)).toNat (flQ es, rsQ es)).1 by unfold mcV mcL; rw [if_pos HE.out, HL.out])
    have HF := Lib.hid (flQ_bd hok.q)
    have HR := Lib.hid (rsQ_sm hok.q)
    have HQ := Lib.hid hok.q
    obtain ⟨i0, hi, hz0, hz1, hz2⟩ := info_parts info_int
    obtain ⟨j0, ki, kz0, kz1, kz2⟩ := info_parts info_ratio
    have HBP := hok.bp
    clear hE hok
    go_enter Try.func15, Try.ntmps15
    go_wp2_with fail
    refine (impl_FieldEquities_c A n c S B m d P _ HN.out hm hr HN'.out hm' hr' hmd).mono ?_
    rintro e w1 ⟨G, g1, c1, rfl, hl1, hm1, ho1, b1⟩
    rw [HE.out]
    rw [HL.out] at hl1 ho1
    obtain rfl : g1 = n := by have := hl1.out; have := HLen.out; omega
    have B1 := Lib.hid b1
    have HRP := Lib.hid (hr'.below b1)
    rcases ho1.ri.split with hz | ⟨ge, rfl, hge, hce⟩
    · exfalso; have := HLen.out; omega
    clear b1 ho1 hl1 hr'
    go_wp2_with (first
      | (at_make; refine wpList_make_full _ rfl _ _ _ rfl w1.heap.size 2 i0 _ 1 Try.underlying22 hi hz0 hz1 _ _ _ _ g1 rfl rfl rfl rfl (by rw [hz2]; omega) (by unfold maxLen; omega) (Nat.le_refl _) ?_; intro w2 hown1 hg1; have RO1 := Lib.hid hown1; have GR1 := Lib.hid hg1; have SZ1 := hg1.size; clear hown1 hg1)
      | (at_make; refine wpList_make_full _ rfl _ _ _ rfl w2.heap.size 48 j0 _ 2 Try.underlying91 ki kz0 kz1 _ _ _ _ g1 rfl rfl rfl rfl (by rw [kz2]; omega) (by unfold maxLen; omega) (Nat.le_refl _) ?_; intro w3 hown2 hg2; have RO2 := Lib.hid hown2; have GR2 := Lib.hid hg2; clear hown2 hg2))
    clear hi hz0 hz1 hz2 ki kz0 kz1 kz2
    obtain ⟨G1, hG1⟩ : ∃ G1, w1.heap.size = G1 := ⟨_, rfl⟩
    obtain ⟨G2, hG2⟩ : ∃ G2, w2.heap.size = G2 := ⟨_, rfl⟩
    have CS := Lib.hid (ChSt.make RO1.out GR1.out RO2.out GR2.out)
    rw [hG1, hG2] at CS
    rw [hG1, hG2]
    rw [hG1] at hge
    clear RO1 GR1 RO2 GR2 SZ1
    obtain ⟨L, hL⟩ : ∃ L, sumL P - sumL (flQ es) = L := ⟨_, rfl⟩
    rw [hL] at HV
    go_loopw [33] (fun i wr => ∃ k : Nat, i = .int .i64 k ∧ k ≤ g1 ∧ Hid (ChSt w1 wr G1 G2 ((flQ es).take k ++ List.replicate (g1 - k) 0) ((rsQ es).take k ++ List.replicate (g1 - k) (0, 0)))) (fun i _ => g1 - (intOf i).toNat)
    case atStart => exact ⟨0, rfl, Nat.zero_le _, Lib.hid (by simpa using CS.out)⟩
    case round =>
      clear CS
      obtain ⟨k, rfl, hk, hcs⟩ := hrel
      by_cases hlt : k < g1
      · obtain ⟨x, y, hxy⟩ := get_q (qs := es) (k := k) (by rw [HLen.out]; exact hlt)
        obtain ⟨x0, hsm⟩ := HQ.out (x, y) (List.mem_of_getElem? hxy)
        have x1 : x ≤ 1000000000 := hsm.n1
        have y0 : 1 ≤ y := hsm.d0
        have y1 : y ≤ 1000000000 := hsm.d1
        have x0' : 0 ≤ x := x0
        have e1 : x.tdiv y = x / y := Int.tdiv_eq_ediv_of_nonneg x0'
        have e2 : x.tmod y = x % y := Int.tmod_eq_emod_of_nonneg x0'
        have e3 : ¬ y = 0 := by omega
        have q0 : 0 ≤ x / y := Int.ediv_nonneg x0' (by omega)
        have q1 : x / y ≤ x := Int.ediv_le_self _ x0'
        have z0 : 0 ≤ x % y := Int.emod_nonneg x e3
        have z1 : x % y < y := Int.emod_lt_of_pos x (by omega)
        have i1 : (k : Int) < (g1 : Int) := by omega
        have i2 : (0 : Int) ≤ (k : Int) := by omega
        obtain ⟨p0, p1⟩ := hce.out k x y hxy
        have c0 := (hcs.out.below.cell (p := ⟨ge, k * 2, none⟩) (by rw [hG1]; exact hge)).trans p0
        have c1 := (hcs.out.below.cell (p := ⟨ge, k * 2 + 1, none⟩) (by rw [hG1]; exact hge)).trans p1
        have CA := Lib.hid (hcs.out.step (below_al wr (.cells #[.int .i64 x, .int .i64 y] 48)))
        obtain ⟨d0, d1⟩ := CA.out.cells1 (zero_get (l := flQ es) (z := 0) (by rw [flQ_len]; exact HLen.out) hlt)
        have HX := Lib.hid hxy
        have HE1 := Lib.hid e1
        have HE2 := Lib.hid e2
        have HK := Lib.hid (show k < g1 from hlt)
        have gx1 := hcs.out.z1
        have gx2 := hcs.out.z2
        have ne1 : ¬ wr.heap.size = G1 := by omega
        have ne2 : ¬ G1 = wr.heap.size := by omega
        have ne3 : ¬ wr.heap.size = G2 := by omega
        have ne4 : ¬ G2 = wr.heap.size := by omega
        clear hxy p0 p1 hsm x0 e2
        go_upto_region 10 with (fail)
        have CB := Lib.hid (by
          have := hcs.out.set1 (j := k) (by simp [flQ_len]; have := HLen.out; omega) (x / y)
          rw [zero_set (by rw [flQ_len]; exact HLen.out) HK.out (flQ_get HX.out)] at this
          exact this.step (below_al _ (.cells #[.int .i64 x, .int .i64 y] 48)))
        have RX := Lib.hid (show R2 ((wr.setCell ⟨G1, k, none⟩ (.int .i64 (x / y))).alloc (.cells #[.int .i64 x, .int .i64 y] 48)) wr.heap.size x y by have := R2.new (wr.setCell ⟨G1, k, none⟩ (.int .i64 (x / y))) x y; simpa [World.setCell] using this)
        obtain ⟨wx, hwx⟩ : ∃ wx : World, wx = ((wr.setCell ⟨G1, k, none⟩ (.int .i64 (x / y))).alloc (.cells #[.int .i64 x, .int .i64 y] 48)) := ⟨_, rfl⟩
        obtain ⟨gx, hgx⟩ : ∃ gx : Nat, gx = wr.heap.size := ⟨_, rfl⟩
        rw [← hwx, ← hgx]
        rw [← hwx] at CB
        rw [← hwx, ← hgx] at RX
        rw [← hgx] at ne3 ne4
        have CC := Lib.hid (CB.out.set2 (j := k) (by simp [rsQ_len]; have := HLen.out; omega) (x % y) y)
        rw [zero_set (by rw [rsQ_len]; exact HLen.out) HK.out (rsQ_get HX.out)] at CC
        obtain ⟨a0, a1, -, -⟩ := RX.out.cells
        obtain ⟨r0, r1, r2, r3⟩ := CB.out.cells2 (zero_get (l := rsQ es) (z := (0, 0)) (by rw [rsQ_len]; exact HLen.out) HK.out)
        have e2 := HE2.out
        clear hwx hgx c0 c1 d0 d1 e1 ne1 ne2 hcs CA gx1 gx2
        go_wp2_with fail
        go_region
        all_goals
          go_wp2_with fail
          go_roundw
          case rel => exact ⟨k + 1, by go_num, by omega, Lib.hid CC.out.drew⟩
          case measure => simp [intOf]; omega
      · obtain rfl : k = g1 := by omega
        have C0 := hcs.out
        rw [Nat.sub_self, List.replicate_zero, List.append_nil, List.replicate_zero, List.append_nil, List.take_of_length_le (by rw [flQ_len, HLen.out]; exact Nat.le_refl _), List.take_of_length_le (by rw [rsQ_len, HLen.out]; exact Nat.le_refl _)] at C0
        have RP := Lib.hid (HRP.out.below C0.below)
        obtain ⟨F, hF⟩ : ∃ F, flQ es = F := ⟨_, rfl⟩
        obtain ⟨R, hR⟩ : ∃ R, rsQ es = R := ⟨_, rfl⟩
        have LF := Lib.hid (show F.length = k by rw [← hF, flQ_len]; exact HLen.out)
        have LRR := Lib.hid (show R.length = k by rw [← hR, rsQ_len]; exact HLen.out)
        rw [hF] at C0 HF hL HV
        rw [hR] at C0 HR HV
        have HFS := Lib.hid (show ∀ x ∈ F, -4000000000 ≤ x ∧ x ≤ 4000000000 from fun x hx => by have := HF.out x hx; omega)
        have sb := sumL_bound (zs := F) (B := 1000000000) (by omega) (fun x hx => by have := HF.out x hx; omega) k
        rw [List.take_of_length_le (by rw [LF.out]; exact Nat.le_refl _)] at sb
        have sb0 : -5000000000 ≤ sumL F := by omega
        have sb1 : sumL F ≤ 5000000000 := by omega
        have HC := Lib.hid C0
        have GL := Lib.hid (fun j => giveQ_len j (F, R))
        have GS := Lib.hid (giveQ_sm (s := (F, R)) HR.out)
        have GB := Lib.hid (giveQ_bd (s := (F, R)) (B := 1000000000) (by omega) HF.out)
        clear C0 hcs sb hF hR HR HF
        obtain ⟨w4, rfl⟩ : ∃ w4 : World, w4 = wr := ⟨_, rfl⟩
        go_wp2_with (go_at_call 87; first
          | ((with_reducible refine (impl_sumOf_c _ _ _ P _ HN'.out hm' RP.out HBP).mono ?_); rintro e w' ⟨rfl, rfl⟩)
          | ((with_reducible refine (impl_sumOf_c _ _ _ F _ LF.out (by omega) HC.out.s.ri HFS).mono ?_); rintro e w' ⟨rfl, rfl⟩))
        have hl0 : -5000000000 ≤ L := by omega
        have hl1 : L ≤ 6000000000 := by omega
        clear hL sb0 sb1
        go_loopw [12] (fun l wr => ∃ j : Nat, l = .int .i64 (L - j) ∧ j ≤ L.toNat ∧ Hid (ChSt w1 wr G1 G2 (giveQ j (F, R)).1 (giveQ j (F, R)).2)) (fun l _ => (intOf l).toNat)
        case atStart => exact ⟨0, by simp, Nat.zero_le _, HC⟩
        case round =>
          clear HC
          obtain ⟨j, rfl, hj, hcs⟩ := hrel
          by_cases hlt2 : 0 < L - j
          · have dL : decide ((j : Int) < L) = true := by simp; omega
            obtain ⟨rs, hrs⟩ : ∃ rs, (giveQ j (F, R)).2 = rs := ⟨_, rfl⟩
            obtain ⟨ss, hss⟩ : ∃ ss, (giveQ j (F, R)).1 = ss := ⟨_, rfl⟩
            have LRS := Lib.hid (show rs.length = k by rw [← hrs, (GL.out j).2]; exact LRR.out)
            have LSS := Lib.hid (show ss.length = k by rw [← hss, (GL.out j).1]; exact LF.out)
            have SM := Lib.hid (show ∀ q ∈ rs, Sm q.1 q.2 by rw [← hrs]; exact GS.out j)
            have BD := Lib.hid (show ∀ x ∈ ss, 0 ≤ x ∧ x ≤ 1000000000 + (j : Int) by rw [← hss]; exact GB.out j)
            have ST := Lib.hid (show ∀ (b : Nat) (x : Int), maxQ rs k = b → ss[b]? = some x → giveQ (j + 1) (F, R) = (ss.set b (x + 1), rs.set b (-1, 1)) by
              intro b x hb hx
              rw [← hrs] at hb
              rw [← hss] at hx
              have := giveQ_step (s := (F, R)) (k := j) (b := b) (x := x) (by rw [← hb, LRR.out]) hx
              rw [this, hss, hrs])
            rw [hrs, hss] at hcs
            clear hrs hss
            obtain ⟨w5, rfl⟩ : ∃ w5 : World, w5 = wr := ⟨_, rfl⟩
            obtain ⟨zz1, zz2⟩ : G1 < w5.heap.size ∧ G2 < w5.heap.size := ⟨hcs.out.z1, hcs.out.z2⟩
            go_wp2_with fail
            go_loopw [13, 69] (fun t u wr => ∃ i : Nat, t = .int .i64 (maxQ rs i : Nat) ∧ u = .int .i64 i ∧ i ≤ k ∧ Hid (Below w5.heap.size w5 wr)) (fun _ u _ => k - (intOf u).toNat)
            case atStart => exact ⟨0, rfl, rfl, Nat.zero_le _, Lib.hid (Below.refl _ _)⟩
            case round =>
              obtain ⟨i, rfl, rfl, hik, hbw⟩ := hrel
              by_cases hlt3 : i < k
              · obtain ⟨v, hv⟩ : ∃ v, maxQ rs i = v := ⟨_, rfl⟩
                have HB := Lib.hid hv
                have hvl : v < k := by rw [← hv]; exact maxQ_lt rs hik (by omega)
                rw [hv]
                clear hv
                have i1 : (i : Int) < (k : Int) := by omega
                have i2 : (0 : Int) ≤ (i : Int) := by omega
                have i3 : (v : Int) < (k : Int) := by omega
                have i4 : (0 : Int) ≤ (v : Int) := by omega
                obtain ⟨x, y, hxy⟩ := get_q (qs := rs) (k := i) (by rw [LRS.out]; exact hlt3)
                obtain ⟨x', y', hxy'⟩ := get_q (qs := rs) (k := v) (by rw [LRS.out]; exact hvl)
                have S1 := Lib.hid (SM.out (x, y) (List.mem_of_getElem? hxy))
                have S2 := Lib.hid (SM.out (x', y') (List.mem_of_getElem? hxy'))
                have HBS := Lib.hid (show maxQ rs (i + 1) = if 0 < cmpI (x * y') (x' * y) then i else v by
                  show (if 0 < cmpI ((getQ rs i).1 * (getQ rs (maxQ rs i)).2) ((getQ rs (maxQ rs i)).1 * (getQ rs i).2) then i else maxQ rs i) = _
                  rw [HB.out, getQ_some hxy, getQ_some hxy'])
                have CW := Lib.hid (hcs.out.step hbw.out)
                obtain ⟨c0, c3, -, -⟩ := CW.out.cells2 hxy
                obtain ⟨c4, c5, -, -⟩ := (CW.out.step (below_al wr (.cells #[.int .i64 x, .int .i64 y] 48))).cells2 hxy'
                have BX := Lib.hid (below_step hbw.out (below_al wr (.cells #[.int .i64 x, .int .i64 y] 48)) hbw.out.size)
                clear hxy hxy'
                go_wp2_with fail
                have RX := Lib.hid (R2.new wr x y)
                obtain ⟨wx, hwx⟩ : ∃ wx : World, wx = (wr.alloc (.cells #[.int .i64 x, .int .i64 y] 48)) := ⟨_, rfl⟩
                obtain ⟨gx, hgx⟩ : ∃ gx : Nat, gx = wr.heap.size := ⟨_, rfl⟩
                rw [← hwx, ← hgx]
                rw [← hwx] at c4 c5 BX
                rw [← hwx, ← hgx] at RX
                clear hwx hgx c0 c3
                obtain ⟨q0, q1, -, -⟩ := RX.out.cells
                go_still_tail 5, (by kernel_rfl)
                change wpList _ _ _ _ _ wx.drew
                go_wp2_with fail
                refine (impl_compareRatios_c _ _ _ _ _ S1.out S2.out).mono ?_
                rintro e w3 ⟨rfl, b3⟩
                have B3 := Lib.hid (below_step BX.out.drew b3 BX.out.drew.size)
                clear b3 c4 c5 q0 q1
                obtain ⟨cv, hcv⟩ : ∃ cv, cmpI (x * y') (x' * y) = cv := ⟨_, rfl⟩
                rw [hcv] at HBS
                rw [hcv]
                clear hcv
                by_cases hc : 0 < cv
                · have HS2 := Lib.hid (show maxQ rs (i + 1) = i by rw [HBS.out, if_pos hc])
                  go_wp2_with fail
                  go_roundw
                  case rel => exact ⟨i + 1, by rw [HS2.out], by go_num, by omega, B3⟩
                  case measure => simp [intOf]; omega
                · have HS2 := Lib.hid (show maxQ rs (i + 1) = v by rw [HBS.out, if_neg hc])
                  go_wp2_with fail
                  go_roundw
                  case rel => exact ⟨i + 1, by rw [HS2.out], by go_num, by omega, B3⟩
                  case measure => simp [intOf]; omega
              · obtain rfl : i = k := by omega
                obtain ⟨b, hb⟩ : ∃ b, maxQ rs i = b := ⟨_, rfl⟩
                have hbl : b < i := by rw [← hb]; exact maxQ_lt rs (Nat.le_refl _) (by omega)
                obtain ⟨x, hx⟩ := get_some (zs := ss) (k := b) (by rw [LSS.out]; exact hbl)
                obtain ⟨y, y', hy⟩ := get_q (qs := rs) (k := b) (by rw [LRS.out]; exact hbl)
                obtain ⟨x0, x1⟩ := BD.out x (List.mem_of_getElem? hx)
                have HST := Lib.hid (ST.out b x hb hx)
                have CW := Lib.hid (hcs.out.step hbw.out)
                obtain ⟨c0, c1⟩ := CW.out.cells1 hx
                have C1 := Lib.hid (CW.out.set1 (j := b) (by rw [LSS.out]; exact hbl) (x + 1))
                obtain ⟨r0, r1, r2, r3⟩ := C1.out.cells2 hy
                have C2 := Lib.hid (C1.out.set2 (j := b) (by rw [LRS.out]; exact hbl) (-1) 1)
                have i1 : (b : Int) < (i : Int) := by omega
                have i2 : (0 : Int) ≤ (b : Int) := by omega
                have jb : (j : Int) ≤ 6000000000 := by omega
                rw [hb]
                clear hb hx hy
                go_wp2_with fail
                go_roundw
                case rel => exact ⟨j + 1, by go_num, by omega, by rw [HST.out]; exact C2⟩
                case measure => simp [intOf]; omega
          · have hje : j = L.toNat := by omega
            have HV2 := Lib.hid (show mcV S P = (giveQ j (F, R)).1 by rw [HV.out, hje])
            have HLl := Lib.hid (show (giveQ j (F, R)).1.length = k by rw [(GL.out j).1]; exact LF.out)
            have hz := hcs.out.z1
            have hB := hcs.out.below
            have hw1 := B1.out.size
            clear hje
            go_wp2_with fail
            go_ret2
            rw [HV2.out, HE.out]
            exact LR.mk rfl HLl.out (by omega) (hcs.out.s.widen (by omega) (by omega)) (below_step B1.out hB B1.out.size)
  · have HV := Lib.hid (show mcV S P = [] by unfold mcV; rw [if_neg hE])
    obtain ⟨E, hE2⟩ : ∃ E, feE S P = E := ⟨_, rfl⟩
    rw [hE2] at hE
    have HE := Lib.hid hE2
    have hB : (E == 0) = false := by simp [hE]
    have hB2 : (E != 0) = true := by simp [hE]
    rw [HE.out]
    clear hE2
    go_enter Try.func15, Try.ntmps15
    go_wp2_with fail
    refine (impl_FieldEquities_c A n c S B m d P _ HN.out hm hr HN'.out hm' hr' hmd).mono ?_
    rintro e w1 ⟨G, g1, c1, rfl, hl1, hm1, ho1, b1⟩
    rw [HE.out]
    go_wp2_with fail
    go_ret2
    rw [HV.out]
    exact LR.mk rfl rfl (Nat.zero_le _) (OI.nil _ _ _ _) b1
end Go.Proofs.Ythpgkngkmmameaa
namespace Go.Proofs.Ythpgkngkmmameaa
open Go.RowKit
set_option linter.unusedVariables false
theorem laws_likeInts_c (A B : Option Addr) (n m c d : Nat) (zs : List Int) (w : World) (hn : zs.length = n) (hn' : zs.length = m) (hm : n ≤ 1048576) (hr : RI w A zs) (hr' : RI w B zs) :
    Calls Try.prog 31 #[.slice A n c, .slice B m d] w fun e w' => e = .returned (.bool true) ∧ Below w.heap.size w w' := by
  subst hn
  subst hn'
  rcases hr.split with h0 | ⟨b, off, rfl, hb, hc⟩
  · go_enter Try.func31, Try.ntmps31
    go_wp2
    go_loop [5] (fun i => ∃ k : Nat, i = .int .i64 k ∧ k ≤ zs.length) (fun i => zs.length - (intOf i).toNat)
    case atStart => exact ⟨0, rfl, Nat.zero_le _⟩
    case round =>
      obtain ⟨k, rfl, hk⟩ := hrel
      have hge : ¬ k < zs.length := by omega
      go_wp2
      go_ret
      exact ⟨rfl, Below.refl _ _⟩
  · rcases hr'.split with h0 | ⟨b', off', rfl, hb', hc'⟩
    · go_enter Try.func31, Try.ntmps31
      go_wp2
      go_loop [5] (fun i => ∃ k : Nat, i = .int .i64 k ∧ k ≤ zs.length) (fun i => zs.length - (intOf i).toNat)
      case atStart => exact ⟨0, rfl, Nat.zero_le _⟩
      case round =>
        obtain ⟨k, rfl, hk⟩ := hrel
        have hge : ¬ k < zs.length := by omega
        go_wp2
        go_ret
        exact ⟨rfl, Below.refl _ _⟩
    · go_enter Try.func31, Try.ntmps31
      go_wp2
      go_loopw [5] (fun i wr => ∃ k : Nat, i = .int .i64 k ∧ k ≤ zs.length ∧ ∃ q, wr = w.drewN q) (fun i _ => zs.length - (intOf i).toNat)
      case atStart => exact ⟨0, rfl, Nat.zero_le _, 0, rfl⟩
      case round =>
        obtain ⟨k, rfl, hk, q, rfl⟩ := hrel
        by_cases hlt : k < zs.length
        · obtain ⟨x, hx⟩ := get_some hlt
          have hcx := hc.out k x hx
          have hcx' := hc'.out k x hx
          clear hx
          go_wp2
          go_quiet (fail)
          go_wp2
          go_roundw
          case rel => exact ⟨k + 1, by go_num, by omega, _, rfl⟩
          case measure => simp [intOf]; omega
        · go_wp2
          go_ret
          exact ⟨rfl, below_drewN (Below.refl _ _) _⟩

end Go.Proofs.Ythpgkngkmmameaa
namespace Go.Proofs.Ythpgkngkmmameaa
open Go.RowKit
set_option linter.unusedVariables false
theorem laws_sum_c (A : Option Addr) (n c : Nat) (zs : List Int) (w : World) (hn : zs.length = n) (hm : n ≤ 1048576) (hr : RI w A zs) (hz : Hid (∀ x ∈ zs, -4000000000 ≤ x ∧ x ≤ 4000000000)) :
    Calls Try.prog 32 #[.slice A n c] w fun e w' => e = .returned (.int .i64 (sumL zs)) ∧ w = w' := by
  subst hn
  rcases hr.split with h0 | ⟨b, off, rfl, hb, hc⟩
  all_goals
    go_enter Try.func32, Try.ntmps32
    go_wp2_with fail
    go_loop [3, 4] (fun s i => ∃ k : Nat, s = .int .i64 (sumL (zs.take k)) ∧ i = .int .i64 k ∧ k ≤ zs.length) (fun _ i => zs.length - (intOf i).toNat)
    case atStart => exact ⟨0, rfl, rfl, Nat.zero_le _⟩
    case round =>
      obtain ⟨k, rfl, rfl, hk⟩ := hrel
      by_cases hlt : k < zs.length
      · first
          | (exfalso; omega; done)
          | (obtain ⟨x, hx⟩ := get_some hlt
             have hcx := hc.out k x hx
             obtain ⟨x0, x1⟩ := hz.out x (List.mem_of_getElem? hx)
             obtain ⟨s0, s1⟩ := sumL_bound (B := 4000000000) (by omega) hz.out k
             have HS := Lib.hid (sumL_step hx)
             clear hx
             go_wp2_with fail
             go_round
             case rel => exact ⟨k + 1, by rw [HS.out], by go_num, by omega⟩
             case measure => simp [intOf]; omega)
      · have HS := Lib.hid (sumL_done hlt)
        go_wp2_with fail
        go_ret
        exact ⟨ret_int HS.out, rfl⟩
end Go.Proofs.Ythpgkngkmmameaa
