/-
  The events that the reference draws for chapter 31. Conditions: a code of at most 1048576 bytes.
-/
import Derived.Test.YthpgkngkmmameaaDrawBase
import Derived.Test.YthpgkngkmmameaaArgB
import Derived.Test.YthpgkngkmmameaaLawEv
import Derived.Test.YthpgkngkmmameaaFlat
import Derived.Test.YthpgkngkmmameaaDivLaw
import Derived.Test.YthpgkngkmmameaaFlatFacts
namespace Go.Proofs.Ythpgkngkmmameaa
open Go.RowKit
set_option linter.unusedVariables false
theorem OI.cell0 {w : World} {lo hi g : Nat} {zs : List Int} (h : OI w lo hi (some ⟨g, 0, none⟩) zs) {j : Nat} {x : Int} (hx : zs[j]? = some x) : w.cell? ⟨g, j, none⟩ = some (.int .i64 x) ∧ w.frozen? ⟨g, j, none⟩ = false := by
  rcases h with h | ⟨b, off, e, l1, l2, h2, h3, h4⟩
  · subst h; cases hx
  · injection e with e; injection e with e1 e2; subst e1 e2
    have a := h3 j x hx
    have b := h4 j
    rw [Nat.zero_add] at a
    exact ⟨a, b⟩
theorem move_sum {zs : List Int} {j : Nat} {x y n : Int} (hj : ¬ j = 0) (hx : zs[j]? = some x) (hy : zs[0]? = some y) (hs : sumL zs = 1000 ∧ ∀ x ∈ zs, 0 ≤ x) (h0 : 0 ≤ n) (h1 : n ≤ x) : sumL ((zs.set 0 (y + n)).set j (x - n)) = 1000 ∧ ∀ z ∈ (zs.set 0 (y + n)).set j (x - n), 0 ≤ z := by
  have lj := (List.getElem?_eq_some_iff.1 hx).1
  have l0 := (List.getElem?_eq_some_iff.1 hy).1
  constructor
  · have a := sumD_set (zs.set 0 (y + n)) j (x - n) (by rw [List.length_set]; exact lj)
    have b := sumD_set zs 0 (y + n) l0
    rw [getD_set_ne (by omega), show zs.getD j 0 = x by simp [List.getD, hx]] at a
    rw [show zs.getD 0 0 = y by simp [List.getD, hy]] at b
    rw [sumD_sumL] at a b
    rw [sumD_sumL] at a b
    omega
  · intro z hz
    rcases List.mem_or_eq_of_mem_set hz with hz | hz
    · rcases List.mem_or_eq_of_mem_set hz with hz | hz
      · exact hs.2 z hz
      · have := hs.2 y (List.mem_of_getElem? hy); omega
    · omega
theorem E5.al {T : TypeId} {w : World} {b : Nat} {N B F G : Int} {A : Option Addr} {n c : Nat} (h : E5 T w b N B F G A n c) (o : Obj) : E5 T (w.alloc o) b N B F G A n c := h.below ((Below.refl _ _).alloc (Nat.le_refl _) o)
theorem flat_whole {p : Nat} (h1 : 1 ≤ p) (h2 : p ≤ 1000) : sumL (flatL 1000 p) = 1000 ∧ ∀ x ∈ flatL 1000 p, 0 ≤ x := by
  have hok := ones_ok (u := 1000) (n := p) (by omega) (by omega) h1 h2
  rw [← flat_law (by omega) (by omega)]
  exact ⟨divV_sum hok, fun x hx => (divV_small hok (by simp; omega) x hx).1⟩
theorem OI.top {w : World} {lo hi : Nat} {A : Option Addr} {zs : List Int} (h : OI w lo hi A zs) : OI w lo w.heap.size A zs := by
  rcases h with h | ⟨b, off, e, l1, l2, h2, r⟩
  · exact .inl h
  · exact .inr ⟨b, off, e, l1, h2, h2, r⟩
/-- An event that is drawn. -/
def DE (w : World) (lo g : Nat) (e : Ending) (w' : World) : Prop :=
  ∃ (N B F G : Int) (A : Option Addr) (n c : Nat) (S : List Int), e = .returned (.agg #[.int .i64 N, .int .i64 B, .int .i64 F, .int .i64 G, .slice A n c]) ∧ Hid (S.length = n) ∧ n ≤ 6 ∧ OI w' w.heap.size w'.heap.size A S ∧ Src w' lo g ∧ Kept g (g + 1) w w'
theorem kept5 (w : World) (H : Nat) (v0 v1 v2 v3 v4 : Value) : Kept H (H + 1) w (((((w.setCell ⟨H, 0, none⟩ v0).setCell ⟨H, 1, none⟩ v1).setCell ⟨H, 2, none⟩ v2).setCell ⟨H, 3, none⟩ v3).setCell ⟨H, 4, none⟩ v4) :=
  (((((Kept.refl H (H + 1) w).setCell (p := ⟨H, 0, none⟩) (.inl ⟨Nat.le_refl _, by simp⟩) v0).setCell (p := ⟨H, 1, none⟩) (.inl ⟨Nat.le_refl _, by simp⟩) v1).setCell (p := ⟨H, 2, none⟩) (.inl ⟨Nat.le_refl _, by simp⟩) v2).setCell (p := ⟨H, 3, none⟩) (.inl ⟨Nat.le_refl _, by simp⟩) v3).setCell (p := ⟨H, 4, none⟩) (.inl ⟨Nat.le_refl _, by simp⟩) v4
theorem DE.mk {w w9 w' : World} {lo g a b n c : Nat} {N B F G : Int} {A : Option Addr} {S : List Int} (hk : Kept w.heap.size (w.heap.size + 1) w9 w') (hs : Src w9 lo g) (hg : g < w.heap.size) (h : Kept g (g + 1) w w9) (hz : w.heap.size < w9.heap.size) (ho : OI w9 a b A S) (ha : w.heap.size < a) (hl : Hid (S.length = n)) (hn : n ≤ 6) :
    DE w lo g (.returned (.agg #[.int .i64 N, .int .i64 B, .int .i64 F, .int .i64 G, .slice A n c])) w' := by
  have hb : Below w.heap.size w9 w' := hk.below (Nat.le_refl _) (by omega)
  exact ⟨N, B, F, G, A, n, c, S, rfl, hl, hn, (ho.kept hk (.inl (by omega))).top.widen (by omega) (Nat.le_refl _), hs.belowB hb hg, h.belowBase hb⟩
set_option maxHeartbeats 12000000 in
theorem spec_l31Draw_c (w : World) (lo g : Nat) (hs : Src w lo g) : Calls Try.prog 114 #[.pointer (some ⟨g, 0, none⟩)] w (DE w lo g) := by
  have hgs := hs.lt.2
  go_enter Try.func114, Try.ntmps114
  go_wp2_with fail
  refine (spec_l01Next_c _ lo g _ (hs.alloc _) (by omega)).mono ?_
  rintro e w1 ⟨r1, rfl, p1, q1, hs1, hk1⟩
  have e1 : r1 ≤ 11 := by omega
  have X0 := Lib.hid ((E5.new 58 w 0 0 0 0 none 0 0).kept hk1 (.inr (by omega)))
  have HK1 := Lib.hid (((Kept.refl g (g + 1) w).alloc (.cells #[.int .i64 0, .int .i64 0, .int .i64 0, .int .i64 0, .slice none 0 0] 58)).trans hk1)
  clear hk1 q1
  go_wp2_with fail
  refine (spec_l01Pick_c _ lo g _ _ _ [0, 1, 5, 10, 33] (hs1.alloc _) rfl (by simp) (by simp) (RI.lit _ _ _ rfl) (fun b off e => by injection e with e; injection e with e1 _; have := hs1.lt; omega)).mono ?_
  rintro e w2 ⟨r2, rfl, m2, hs2, hk2⟩
  have b2 : 0 ≤ r2 ∧ r2 ≤ 33 := by simp at m2; omega
  have Z2 := Lib.hid ((X0.out.al (.cells #[.int .i64 0, .int .i64 1, .int .i64 5, .int .i64 10, .int .i64 33] 2)).kept hk2 (.inr (by omega)))
  have HK2 := Lib.hid ((HK1.out.alloc (.cells #[.int .i64 0, .int .i64 1, .int .i64 5, .int .i64 10, .int .i64 33] 2)).trans hk2)
  clear hk2 m2
  go_wp2_with fail
  refine (spec_l01Pick_c _ lo g _ _ _ [0, 1, 3] (hs2.alloc _) rfl (by simp) (by simp) (RI.lit _ _ _ rfl) (fun b off e => by injection e with e; injection e with e1 _; have := hs2.lt; omega)).mono ?_
  rintro e w3 ⟨r3, rfl, m3, hs3, hk3⟩
  have b3 : 0 ≤ r3 ∧ r3 ≤ 3 := by simp at m3; omega
  have Z3 := Lib.hid ((Z2.out.al (.cells #[.int .i64 0, .int .i64 1, .int .i64 3] 2)).kept hk3 (.inr (by omega)))
  have HK3 := Lib.hid ((HK2.out.alloc (.cells #[.int .i64 0, .int .i64 1, .int .i64 3] 2)).trans hk3)
  clear hk3 m3
  go_wp2_with fail
  refine (spec_l01Pick_c _ lo g _ _ _ [0, 0, 50, 100, 1001] (hs3.alloc _) rfl (by simp) (by simp) (RI.lit _ _ _ rfl) (fun b off e => by injection e with e; injection e with e1 _; have := hs3.lt; omega)).mono ?_
  rintro e w4 ⟨r4, rfl, m4, hs4, hk4⟩
  have b4 : 0 ≤ r4 ∧ r4 ≤ 1001 := by simp at m4; omega
  have Z4 := Lib.hid ((Z3.out.al (.cells #[.int .i64 0, .int .i64 0, .int .i64 50, .int .i64 100, .int .i64 1001] 2)).kept hk4 (.inr (by omega)))
  have HK4 := Lib.hid ((HK3.out.alloc (.cells #[.int .i64 0, .int .i64 0, .int .i64 50, .int .i64 100, .int .i64 1001] 2)).trans hk4)
  clear hk4 m4
  go_wp2_with fail
  all_goals (
    refine (spec_l01Next_c _ lo g _ (hs4.alloc _) (by omega)).mono ?_
    rintro e w5 ⟨r5, rfl, p5, q5, hs5, hk5⟩
    have e5 : r5 ≤ 5 := by omega
    have zz := HK4.out.size
    have X5 := Lib.hid ((E5.new 58 w4 (2 + r1) r2 r3 r4 none 0 0).kept hk5 (.inr (by have := hs4.lt; omega)))
    have Z5 := Lib.hid ((Z4.out.al (.cells #[.int .i64 (2 + r1), .int .i64 r2, .int .i64 r3, .int .i64 r4, .slice none 0 0] 58)).kept hk5 (.inr (by omega)))
    have HK5 := Lib.hid ((HK4.out.alloc (.cells #[.int .i64 (2 + r1), .int .i64 r2, .int .i64 r3, .int .i64 r4, .slice none 0 0] 58)).trans hk5)
    obtain ⟨pl, hpl⟩ : ∃ pl : Nat, (1 + r5 : Int) = (pl : Int) := ⟨(1 + r5).toNat, by omega⟩
    have l1 : 1 ≤ pl := by omega
    have l2 : pl ≤ 6 := by omega
    have hz5 := hk5.size
    have H45 := Lib.hid (show w4.heap.size < w5.heap.size by have := X5.out.lt; exact this)
    clear hk5 q5 p1 hs1 hs2 hs3
    go_wp2_with fail
    clear hpl p5 e5
    refine (spec_l31Flat_c pl _ l1 (by omega)).mono ?_
    rintro e w6 ⟨gf, cf, rfl, hrow, hb6⟩
    have hs6 := hs5.below hb6
    have hb6l : w5.heap.size ≤ gf := by rcases hrow.oi with h | ⟨b, off, e, h1, -⟩
                                        · have := hrow.length; rw [h] at this; simp at this; omega
                                        · injection e with e; injection e with e1 _; omega
    have HK6 := Lib.hid (HK5.out.belowBase (hb6.mono HK5.out.size))
    have X6 := Lib.hid (X5.out.below hb6)
    have Z6 := Lib.hid (Z5.out.below hb6)
    have zf := hb6.size
    clear hb6
    go_wp2_with fail
    refine (spec_l01Next_c _ lo g _ hs6 (by omega)).mono ?_
    rintro e w7 ⟨r7, rfl, p7, q7, hs7, hk7⟩
    have e7 : r7 ≤ 3 := by omega
    have HO := Lib.hid (hrow.oi.kept hk7 (.inl (by have := hs5.lt; omega)))
    have HK7 := Lib.hid (HK6.out.trans hk7)
    have X7 := Lib.hid (X6.out.kept hk7 (.inr (by have := hs4.lt; omega)))
    have Z7 := Lib.hid (Z6.out.kept hk7 (.inr (by omega)))
    have HS7 := Lib.hid hs7
    have HL := Lib.hid hrow.length
    clear hrow hk7 q7 hs6 hs7
    go_wp2_with fail
    go_loopw [6, 7] (fun i u wr => ∃ (k : Nat) (zs : List Int), i = .int .i64 k ∧ k ≤ 3 ∧ Hid (zs.length = pl) ∧ Hid (sumL zs = 1000 ∧ ∀ x ∈ zs, 0 ≤ x) ∧ Hid (OI wr w5.heap.size w6.heap.size (some ⟨gf, 0, none⟩) zs) ∧ Hid (Src wr lo g) ∧ Hid (Kept g (g + 1) w wr) ∧ Hid (E5 58 wr w4.heap.size (2 + r1) r2 r3 r4 none 0 0) ∧ Hid (E5 58 wr w.heap.size 0 0 0 0 none 0 0)) (fun i _ _ => (intOf i).toNat)
    case atStart => exact ⟨r7.toNat, flatL 1000 pl, by simp; omega, by omega, HL, Lib.hid (flat_whole l1 (by omega)), HO, HS7, HK7, X7, Z7⟩
    case round =>
      obtain ⟨k, zs, rfl, hk, hzl, hzs, ho, hsr, hkr, hx, hz0⟩ := hrel
      by_cases h0 : 0 < k
      · have H0 : 0 < (k : Int) := by omega
        by_cases h1 : 1 < pl
        · have H1 : 1 < (pl : Int) := by omega
          obtain ⟨j, hj⟩ : ∃ j : Nat, (pl : Int) - 1 = (j : Int) := ⟨pl - 1, by omega⟩
          have j1 : j < pl := by omega
          have j2 : (j : Int) < (pl : Int) := by omega
          have j3 : 0 ≤ (j : Int) := by omega
          have HJ := Lib.hid hj
          obtain ⟨x, hxj⟩ := get_some (zs := zs) (k := j) (by have := hzl.out; omega)
          obtain ⟨y, hy0⟩ := get_some (zs := zs) (k := 0) (by have := hzl.out; omega)
          have jz : ¬ j = 0 := by omega
          obtain ⟨sm, nn⟩ := hzs.out
          have x0 := nn x (List.mem_of_getElem? hxj)
          have y0 := nn y (List.mem_of_getElem? hy0)
          have x1 : x ≤ 1000 := by have := mem_le_sum nn x (List.mem_of_getElem? hxj); rw [sumD_sumL, sm] at this; exact this
          have y1 : y ≤ 1000 := by have := mem_le_sum nn y (List.mem_of_getElem? hy0); rw [sumD_sumL, sm] at this; exact this
          obtain ⟨cx, fx⟩ := ho.out.cell0 hxj
          obtain ⟨cy, fy⟩ := ho.out.cell0 hy0
          have HX := Lib.hid hxj
          have HY := Lib.hid hy0
          clear hxj hy0 sm nn
          go_wp2_with fail
          refine (spec_l01Next_c _ lo g _ hsr.out (by omega)).mono ?_
          rintro e w8 ⟨n8, rfl, p8, q8, hs8, hk8⟩
          have n81 : n8 ≤ x := by omega
          have ho8 := Lib.hid (ho.out.kept hk8 (.inl (by have := hs5.lt; omega)))
          have HK8 := Lib.hid (hkr.out.trans hk8)
          have X8 := Lib.hid (hx.out.kept hk8 (.inr (by have := hs4.lt; omega)))
          have HS8 := Lib.hid hs8
          have Z8 := Lib.hid (hz0.out.kept hk8 (.inr (by omega)))
          clear cx fx cy fy hk8 hs8 q8
          obtain ⟨cx, fx⟩ := ho8.out.cell0 HX.out
          obtain ⟨cy, fy⟩ := ho8.out.cell0 HY.out
          go_wp2_with fail
          go_roundw
          case rel =>
            have q1 := OI.set ho8.out (j := 0) (by have := hzl.out; omega) (y + n8)
            have q2 := OI.set q1 (j := j) (by rw [List.length_set]; have := hzl.out; omega) (x - n8)
            rw [Nat.zero_add] at q1 q2
            rw [Nat.zero_add] at q2
            have gb : w.heap.size ≤ gf := by
              have := HK5.out.size
              have := hb6l
              omega
            have ge1 : w4.heap.size < gf := by have := hs4.lt; have := H45.out; omega
            have ge2 : w.heap.size < gf := by have := HK4.out.size; omega
            exact ⟨k - 1, _, by go_num, by omega, Lib.hid (by rw [List.length_set, List.length_set]; exact hzl.out), Lib.hid (move_sum jz HX.out HY.out hzs.out p8 n81), Lib.hid q2, Lib.hid (HS8.out.belowB (((Below.refl w.heap.size _).setCell (p := ⟨gf, 0, none⟩) gb _).setCell (p := ⟨gf, j, none⟩) gb _) hgs), Lib.hid ((HK8.out.setCell (p := ⟨gf, 0, none⟩) (.inr gb) _).setCell (p := ⟨gf, j, none⟩) (.inr gb) _), Lib.hid ((X8.out.kept (Kept.at_ gf 0 _ rfl) (.inl ge1)).kept (Kept.at_ gf j _ rfl) (.inl ge1)), Lib.hid ((Z8.out.kept (Kept.at_ gf 0 _ rfl) (.inl ge2)).kept (Kept.at_ gf j _ rfl) (.inl ge2))⟩
          case measure => simp [intOf]; omega
        · have H1 : ¬ 1 < (pl : Int) := by omega
          go_wp2_with fail
          refine (spec_l01Next_c _ lo g _ hsr.out (by omega)).mono ?_
          rintro e w9 ⟨r9, rfl, p9, q9, hs9, hk9⟩
          have ho9 := Lib.hid (ho.out.kept hk9 (.inl (by have := hs5.lt; omega)))
          have X9 := Lib.hid (hx.out.kept hk9 (.inr (by have := hs4.lt; omega)))
          have Z9 := Lib.hid (hz0.out.kept hk9 (.inr (by omega)))
          have HK9 := Lib.hid (hkr.out.trans hk9)
          have HZL := Lib.hid hzl.out
          have HZS := Lib.hid hzs.out
          clear hk9 hsr hkr hx hz0 ho hzs hzl
          have ne1 : ¬ w4.heap.size = w.heap.size := by have := Z4.out.lt; omega
          have gz1 : w4.heap.size < w9.heap.size := X9.out.lt
          have gz2 : w.heap.size < w9.heap.size := Z9.out.lt
          have gz3 : w.heap.size < w4.heap.size := Z4.out.lt
          have gz5 : w.heap.size < w5.heap.size := by have := H45.out; omega
          obtain ⟨a0, a1, a2, a3, a4⟩ := X9.out.cells
          obtain ⟨b0, b1, b2, b3, b4⟩ := Z9.out.cells
          have f0 := Z9.out.frz 0
          have f1 := Z9.out.frz 1
          have f2 := Z9.out.frz 2
          have f3 := Z9.out.frz 3
          have f4 := Z9.out.frz 4
          obtain ⟨y, hy0⟩ := get_some (zs := zs) (k := 0) (by have := HZL.out; omega)
          obtain ⟨sm, nn⟩ := HZS.out
          have y0 := nn y (List.mem_of_getElem? hy0)
          have y1 : y ≤ 1000 := by have := mem_le_sum nn y (List.mem_of_getElem? hy0); rw [sumD_sumL, sm] at this; exact this
          have HY := Lib.hid hy0
          clear hy0 sm nn
          by_cases t4 : r9 = 4
          · go_wp2_with fail
            refine bodyPost_ret (v := .agg #[.int .i64 (2 + r1), .int .i64 r2, .int .i64 0, .int .i64 0, .slice none 0 0]) (by simp [results, Try.results114, go_sem, b0, b1, b2, b3, b4]) rfl ?_
            exact DE.mk (kept5 _ _ _ _ _ _ _) hs9 hgs HK9.out gz2 (OI.nil _ w5.heap.size w5.heap.size _) gz5 (Lib.hid rfl) (by omega)
          by_cases t0 : r9 = 0
          · go_wp2_with fail
            refine (spec_l01Pick_c _ lo g _ _ _ [1, 2, 60, 61] (hs9.alloc _) rfl (by simp) (by simp) (RI.lit _ _ _ rfl) (fun b off e => by injection e with e; injection e with e1 _; have := hs9.lt; omega)).mono ?_
            rintro e w10 ⟨v, rfl, mv, hs10, hk10⟩
            have X10 := Lib.hid ((X9.out.al (.cells #[.int .i64 1, .int .i64 2, .int .i64 60, .int .i64 61] 2)).kept hk10 (.inr (by have := hs4.lt; omega)))
            have Z10 := Lib.hid ((Z9.out.al (.cells #[.int .i64 1, .int .i64 2, .int .i64 60, .int .i64 61] 2)).kept hk10 (.inr (by omega)))
            have HK10 := Lib.hid ((HK9.out.alloc (.cells #[.int .i64 1, .int .i64 2, .int .i64 60, .int .i64 61] 2)).trans hk10)
            have ho10 := Lib.hid ((ho9.out.below (below_box w9 (.cells #[.int .i64 1, .int .i64 2, .int .i64 60, .int .i64 61] 2))).kept hk10 (.inl (by have := hs5.lt; omega)))
            have gz := Z10.out.lt
            have gzx := X10.out.lt
            clear hk10 mv a0 a1 a2 a3 a4 b0 b1 b2 b3 b4 f0 f1 f2 f3 f4
            obtain ⟨a0, a1, a2, a3, a4⟩ := X10.out.cells
            obtain ⟨b0, b1, b2, b3, b4⟩ := Z10.out.cells
            have f0 := Z10.out.frz 0
            have f1 := Z10.out.frz 1
            have f2 := Z10.out.frz 2
            have f3 := Z10.out.frz 3
            have f4 := Z10.out.frz 4
            have fx := X10.out.frz 0
            have hoS := Lib.hid (ho10.out.kept (Kept.at_ (a := w10) w4.heap.size 0 (.int .i64 v) rfl) (.inl (by have := H45.out; omega)))
            have hsS := Lib.hid (hs10.belowB (((Below.refl w.heap.size w10).setCell (p := ⟨w4.heap.size, 0, none⟩) (by omega) (.int .i64 v))) hgs)
            have HKS := Lib.hid (HK10.out.setCell (p := ⟨w4.heap.size, 0, none⟩) (.inr (by omega)) (.int .i64 v))
            have gzS := Lib.hid (show w.heap.size < (w10.setCell ⟨w4.heap.size, 0, none⟩ (.int .i64 v)).heap.size by simpa [World.setCell] using gz)
            go_wp2_with fail
            refine bodyPost_ret (v := .agg #[.int .i64 v, .int .i64 r2, .int .i64 r3, .int .i64 r4, .slice (some ⟨gf, 0, none⟩) pl cf]) (by simp [results, Try.results114, go_sem, b0, b1, b2, b3, b4]) rfl ?_
            exact DE.mk (kept5 _ _ _ _ _ _ _) hsS.out hgs HKS.out gzS.out hoS.out gz5 HZL l2
          by_cases t1 : r9 = 1
          · go_wp2_with fail
            refine (spec_l01Pick_c _ lo g _ _ _ [-1, 1000, 1001] (hs9.alloc _) rfl (by simp) (by simp) (RI.lit _ _ _ rfl) (fun b off e => by injection e with e; injection e with e1 _; have := hs9.lt; omega)).mono ?_
            rintro e w10 ⟨v, rfl, mv, hs10, hk10⟩
            have X10 := Lib.hid ((X9.out.al (.cells #[.int .i64 (-1), .int .i64 1000, .int .i64 1001] 2)).kept hk10 (.inr (by have := hs4.lt; omega)))
            have Z10 := Lib.hid ((Z9.out.al (.cells #[.int .i64 (-1), .int .i64 1000, .int .i64 1001] 2)).kept hk10 (.inr (by omega)))
            have HK10 := Lib.hid ((HK9.out.alloc (.cells #[.int .i64 (-1), .int .i64 1000, .int .i64 1001] 2)).trans hk10)
            have ho10 := Lib.hid ((ho9.out.below (below_box w9 (.cells #[.int .i64 (-1), .int .i64 1000, .int .i64 1001] 2))).kept hk10 (.inl (by have := hs5.lt; omega)))
            have gz := Z10.out.lt
            have gzx := X10.out.lt
            clear hk10 mv a0 a1 a2 a3 a4 b0 b1 b2 b3 b4 f0 f1 f2 f3 f4
            obtain ⟨a0, a1, a2, a3, a4⟩ := X10.out.cells
            obtain ⟨b0, b1, b2, b3, b4⟩ := Z10.out.cells
            have f0 := Z10.out.frz 0
            have f1 := Z10.out.frz 1
            have f2 := Z10.out.frz 2
            have f3 := Z10.out.frz 3
            have f4 := Z10.out.frz 4
            have fx := X10.out.frz 1
            have hoS := Lib.hid (ho10.out.kept (Kept.at_ (a := w10) w4.heap.size 1 (.int .i64 v) rfl) (.inl (by have := H45.out; omega)))
            have hsS := Lib.hid (hs10.belowB (((Below.refl w.heap.size w10).setCell (p := ⟨w4.heap.size, 1, none⟩) (by omega) (.int .i64 v))) hgs)
            have HKS := Lib.hid (HK10.out.setCell (p := ⟨w4.heap.size, 1, none⟩) (.inr (by omega)) (.int .i64 v))
            have gzS := Lib.hid (show w.heap.size < (w10.setCell ⟨w4.heap.size, 1, none⟩ (.int .i64 v)).heap.size by simpa [World.setCell] using gz)
            go_wp2_with fail
            refine bodyPost_ret (v := .agg #[.int .i64 (2 + r1), .int .i64 v, .int .i64 r3, .int .i64 r4, .slice (some ⟨gf, 0, none⟩) pl cf]) (by simp [results, Try.results114, go_sem, b0, b1, b2, b3, b4]) rfl ?_
            exact DE.mk (kept5 _ _ _ _ _ _ _) hsS.out hgs HKS.out gzS.out hoS.out gz5 HZL l2
          by_cases t2 : r9 = 2
          · go_wp2_with fail
            refine (spec_l01Pick_c _ lo g _ _ _ [-1, 1000000, 1000001] (hs9.alloc _) rfl (by simp) (by simp) (RI.lit _ _ _ rfl) (fun b off e => by injection e with e; injection e with e1 _; have := hs9.lt; omega)).mono ?_
            rintro e w10 ⟨v, rfl, mv, hs10, hk10⟩
            have X10 := Lib.hid ((X9.out.al (.cells #[.int .i64 (-1), .int .i64 1000000, .int .i64 1000001] 2)).kept hk10 (.inr (by have := hs4.lt; omega)))
            have Z10 := Lib.hid ((Z9.out.al (.cells #[.int .i64 (-1), .int .i64 1000000, .int .i64 1000001] 2)).kept hk10 (.inr (by omega)))
            have HK10 := Lib.hid ((HK9.out.alloc (.cells #[.int .i64 (-1), .int .i64 1000000, .int .i64 1000001] 2)).trans hk10)
            have ho10 := Lib.hid ((ho9.out.below (below_box w9 (.cells #[.int .i64 (-1), .int .i64 1000000, .int .i64 1000001] 2))).kept hk10 (.inl (by have := hs5.lt; omega)))
            have gz := Z10.out.lt
            have gzx := X10.out.lt
            clear hk10 mv a0 a1 a2 a3 a4 b0 b1 b2 b3 b4 f0 f1 f2 f3 f4
            obtain ⟨a0, a1, a2, a3, a4⟩ := X10.out.cells
            obtain ⟨b0, b1, b2, b3, b4⟩ := Z10.out.cells
            have f0 := Z10.out.frz 0
            have f1 := Z10.out.frz 1
            have f2 := Z10.out.frz 2
            have f3 := Z10.out.frz 3
            have f4 := Z10.out.frz 4
            have fx := X10.out.frz 3
            have hoS := Lib.hid (ho10.out.kept (Kept.at_ (a := w10) w4.heap.size 3 (.int .i64 v) rfl) (.inl (by have := H45.out; omega)))
            have hsS := Lib.hid (hs10.belowB (((Below.refl w.heap.size w10).setCell (p := ⟨w4.heap.size, 3, none⟩) (by omega) (.int .i64 v))) hgs)
            have HKS := Lib.hid (HK10.out.setCell (p := ⟨w4.heap.size, 3, none⟩) (.inr (by omega)) (.int .i64 v))
            have gzS := Lib.hid (show w.heap.size < (w10.setCell ⟨w4.heap.size, 3, none⟩ (.int .i64 v)).heap.size by simpa [World.setCell] using gz)
            go_wp2_with fail
            refine bodyPost_ret (v := .agg #[.int .i64 (2 + r1), .int .i64 r2, .int .i64 r3, .int .i64 v, .slice (some ⟨gf, 0, none⟩) pl cf]) (by simp [results, Try.results114, go_sem, b0, b1, b2, b3, b4]) rfl ?_
            exact DE.mk (kept5 _ _ _ _ _ _ _) hsS.out hgs HKS.out gzS.out hoS.out gz5 HZL l2
          by_cases t3 : r9 = 3
          · obtain ⟨cy, fy⟩ := ho9.out.cell0 HY.out
            have q1 := OI.set ho9.out (j := 0) (by have := HZL.out; omega) (y + 1)
            rw [Nat.zero_add] at q1
            have hoS := Lib.hid q1
            have ge : w.heap.size < gf := by omega
            have hsS := Lib.hid (hs9.belowB (((Below.refl w.heap.size w9).setCell (p := ⟨gf, 0, none⟩) (by simp; omega) (.int .i64 (y + 1)))) hgs)
            have HKS := Lib.hid (HK9.out.setCell (p := ⟨gf, 0, none⟩) (.inr (by simp; omega)) (.int .i64 (y + 1)))
            have gzS := Lib.hid (show w.heap.size < (w9.setCell ⟨gf, 0, none⟩ (.int .i64 (y + 1))).heap.size by simpa [World.setCell] using gz2)
            have HZ1 := Lib.hid (show (zs.set 0 (y + 1)).length = pl by rw [List.length_set]; exact HZL.out)
            have ge1 : w4.heap.size < gf := by have := H45.out; omega
            have ne2 : ¬ w.heap.size = gf := by omega
            have ne3 : ¬ w4.heap.size = gf := by omega
            have ne4 : ¬ gf = w.heap.size := by omega
            have ne5 : ¬ gf = w4.heap.size := by omega
            clear q1
            go_wp2_with fail
            refine bodyPost_ret (v := .agg #[.int .i64 (2 + r1), .int .i64 r2, .int .i64 r3, .int .i64 r4, .slice (some ⟨gf, 0, none⟩) pl cf]) (by simp [results, Try.results114, go_sem, b0, b1, b2, b3, b4]) rfl ?_
            exact DE.mk (kept5 _ _ _ _ _ _ _) hsS.out hgs HKS.out gzS.out hoS.out gz5 HZ1 l2
          go_wp2_with fail
          refine bodyPost_ret (v := .agg #[.int .i64 (2 + r1), .int .i64 r2, .int .i64 r3, .int .i64 r4, .slice (some ⟨gf, 0, none⟩) pl cf]) (by simp [results, Try.results114, go_sem, b0, b1, b2, b3, b4]) rfl ?_
          exact DE.mk (kept5 _ _ _ _ _ _ _) hs9 hgs HK9.out gz2 ho9.out gz5 HZL l2
      · have H0 : ¬ 0 < (k : Int) := by omega
        go_wp2_with fail
        refine (spec_l01Next_c _ lo g _ hsr.out (by omega)).mono ?_
        rintro e w9 ⟨r9, rfl, p9, q9, hs9, hk9⟩
        have ho9 := Lib.hid (ho.out.kept hk9 (.inl (by have := hs5.lt; omega)))
        have X9 := Lib.hid (hx.out.kept hk9 (.inr (by have := hs4.lt; omega)))
        have Z9 := Lib.hid (hz0.out.kept hk9 (.inr (by omega)))
        have HK9 := Lib.hid (hkr.out.trans hk9)
        have HZL := Lib.hid hzl.out
        have HZS := Lib.hid hzs.out
        clear hk9 hsr hkr hx hz0 ho hzs hzl
        have ne1 : ¬ w4.heap.size = w.heap.size := by have := Z4.out.lt; omega
        have gz1 : w4.heap.size < w9.heap.size := X9.out.lt
        have gz2 : w.heap.size < w9.heap.size := Z9.out.lt
        have gz3 : w.heap.size < w4.heap.size := Z4.out.lt
        have gz5 : w.heap.size < w5.heap.size := by have := H45.out; omega
        obtain ⟨a0, a1, a2, a3, a4⟩ := X9.out.cells
        obtain ⟨b0, b1, b2, b3, b4⟩ := Z9.out.cells
        have f0 := Z9.out.frz 0
        have f1 := Z9.out.frz 1
        have f2 := Z9.out.frz 2
        have f3 := Z9.out.frz 3
        have f4 := Z9.out.frz 4
        obtain ⟨y, hy0⟩ := get_some (zs := zs) (k := 0) (by have := HZL.out; omega)
        obtain ⟨sm, nn⟩ := HZS.out
        have y0 := nn y (List.mem_of_getElem? hy0)
        have y1 : y ≤ 1000 := by have := mem_le_sum nn y (List.mem_of_getElem? hy0); rw [sumD_sumL, sm] at this; exact this
        have HY := Lib.hid hy0
        clear hy0 sm nn
        by_cases t4 : r9 = 4
        · go_wp2_with fail
          refine bodyPost_ret (v := .agg #[.int .i64 (2 + r1), .int .i64 r2, .int .i64 0, .int .i64 0, .slice none 0 0]) (by simp [results, Try.results114, go_sem, b0, b1, b2, b3, b4]) rfl ?_
          exact DE.mk (kept5 _ _ _ _ _ _ _) hs9 hgs HK9.out gz2 (OI.nil _ w5.heap.size w5.heap.size _) gz5 (Lib.hid rfl) (by omega)
        by_cases t0 : r9 = 0
        · go_wp2_with fail
          refine (spec_l01Pick_c _ lo g _ _ _ [1, 2, 60, 61] (hs9.alloc _) rfl (by simp) (by simp) (RI.lit _ _ _ rfl) (fun b off e => by injection e with e; injection e with e1 _; have := hs9.lt; omega)).mono ?_
          rintro e w10 ⟨v, rfl, mv, hs10, hk10⟩
          have X10 := Lib.hid ((X9.out.al (.cells #[.int .i64 1, .int .i64 2, .int .i64 60, .int .i64 61] 2)).kept hk10 (.inr (by have := hs4.lt; omega)))
          have Z10 := Lib.hid ((Z9.out.al (.cells #[.int .i64 1, .int .i64 2, .int .i64 60, .int .i64 61] 2)).kept hk10 (.inr (by omega)))
          have HK10 := Lib.hid ((HK9.out.alloc (.cells #[.int .i64 1, .int .i64 2, .int .i64 60, .int .i64 61] 2)).trans hk10)
          have ho10 := Lib.hid ((ho9.out.below (below_box w9 (.cells #[.int .i64 1, .int .i64 2, .int .i64 60, .int .i64 61] 2))).kept hk10 (.inl (by have := hs5.lt; omega)))
          have gz := Z10.out.lt
          have gzx := X10.out.lt
          clear hk10 mv a0 a1 a2 a3 a4 b0 b1 b2 b3 b4 f0 f1 f2 f3 f4
          obtain ⟨a0, a1, a2, a3, a4⟩ := X10.out.cells
          obtain ⟨b0, b1, b2, b3, b4⟩ := Z10.out.cells
          have f0 := Z10.out.frz 0
          have f1 := Z10.out.frz 1
          have f2 := Z10.out.frz 2
          have f3 := Z10.out.frz 3
          have f4 := Z10.out.frz 4
          have fx := X10.out.frz 0
          have hoS := Lib.hid (ho10.out.kept (Kept.at_ (a := w10) w4.heap.size 0 (.int .i64 v) rfl) (.inl (by have := H45.out; omega)))
          have hsS := Lib.hid (hs10.belowB (((Below.refl w.heap.size w10).setCell (p := ⟨w4.heap.size, 0, none⟩) (by omega) (.int .i64 v))) hgs)
          have HKS := Lib.hid (HK10.out.setCell (p := ⟨w4.heap.size, 0, none⟩) (.inr (by omega)) (.int .i64 v))
          have gzS := Lib.hid (show w.heap.size < (w10.setCell ⟨w4.heap.size, 0, none⟩ (.int .i64 v)).heap.size by simpa [World.setCell] using gz)
          go_wp2_with fail
          refine bodyPost_ret (v := .agg #[.int .i64 v, .int .i64 r2, .int .i64 r3, .int .i64 r4, .slice (some ⟨gf, 0, none⟩) pl cf]) (by simp [results, Try.results114, go_sem, b0, b1, b2, b3, b4]) rfl ?_
          exact DE.mk (kept5 _ _ _ _ _ _ _) hsS.out hgs HKS.out gzS.out hoS.out gz5 HZL l2
        by_cases t1 : r9 = 1
        · go_wp2_with fail
          refine (spec_l01Pick_c _ lo g _ _ _ [-1, 1000, 1001] (hs9.alloc _) rfl (by simp) (by simp) (RI.lit _ _ _ rfl) (fun b off e => by injection e with e; injection e with e1 _; have := hs9.lt; omega)).mono ?_
          rintro e w10 ⟨v, rfl, mv, hs10, hk10⟩
          have X10 := Lib.hid ((X9.out.al (.cells #[.int .i64 (-1), .int .i64 1000, .int .i64 1001] 2)).kept hk10 (.inr (by have := hs4.lt; omega)))
          have Z10 := Lib.hid ((Z9.out.al (.cells #[.int .i64 (-1), .int .i64 1000, .int .i64 1001] 2)).kept hk10 (.inr (by omega)))
          have HK10 := Lib.hid ((HK9.out.alloc (.cells #[.int .i64 (-1), .int .i64 1000, .int .i64 1001] 2)).trans hk10)
          have ho10 := Lib.hid ((ho9.out.below (below_box w9 (.cells #[.int .i64 (-1), .int .i64 1000, .int .i64 1001] 2))).kept hk10 (.inl (by have := hs5.lt; omega)))
          have gz := Z10.out.lt
          have gzx := X10.out.lt
          clear hk10 mv a0 a1 a2 a3 a4 b0 b1 b2 b3 b4 f0 f1 f2 f3 f4
          obtain ⟨a0, a1, a2, a3, a4⟩ := X10.out.cells
          obtain ⟨b0, b1, b2, b3, b4⟩ := Z10.out.cells
          have f0 := Z10.out.frz 0
          have f1 := Z10.out.frz 1
          have f2 := Z10.out.frz 2
          have f3 := Z10.out.frz 3
          have f4 := Z10.out.frz 4
          have fx := X10.out.frz 1
          have hoS := Lib.hid (ho10.out.kept (Kept.at_ (a := w10) w4.heap.size 1 (.int .i64 v) rfl) (.inl (by have := H45.out; omega)))
          have hsS := Lib.hid (hs10.belowB (((Below.refl w.heap.size w10).setCell (p := ⟨w4.heap.size, 1, none⟩) (by omega) (.int .i64 v))) hgs)
          have HKS := Lib.hid (HK10.out.setCell (p := ⟨w4.heap.size, 1, none⟩) (.inr (by omega)) (.int .i64 v))
          have gzS := Lib.hid (show w.heap.size < (w10.setCell ⟨w4.heap.size, 1, none⟩ (.int .i64 v)).heap.size by simpa [World.setCell] using gz)
          go_wp2_with fail
          refine bodyPost_ret (v := .agg #[.int .i64 (2 + r1), .int .i64 v, .int .i64 r3, .int .i64 r4, .slice (some ⟨gf, 0, none⟩) pl cf]) (by simp [results, Try.results114, go_sem, b0, b1, b2, b3, b4]) rfl ?_
          exact DE.mk (kept5 _ _ _ _ _ _ _) hsS.out hgs HKS.out gzS.out hoS.out gz5 HZL l2
        by_cases t2 : r9 = 2
        · go_wp2_with fail
          refine (spec_l01Pick_c _ lo g _ _ _ [-1, 1000000, 1000001] (hs9.alloc _) rfl (by simp) (by simp) (RI.lit _ _ _ rfl) (fun b off e => by injection e with e; injection e with e1 _; have := hs9.lt; omega)).mono ?_
          rintro e w10 ⟨v, rfl, mv, hs10, hk10⟩
          have X10 := Lib.hid ((X9.out.al (.cells #[.int .i64 (-1), .int .i64 1000000, .int .i64 1000001] 2)).kept hk10 (.inr (by have := hs4.lt; omega)))
          have Z10 := Lib.hid ((Z9.out.al (.cells #[.int .i64 (-1), .int .i64 1000000, .int .i64 1000001] 2)).kept hk10 (.inr (by omega)))
          have HK10 := Lib.hid ((HK9.out.alloc (.cells #[.int .i64 (-1), .int .i64 1000000, .int .i64 1000001] 2)).trans hk10)
          have ho10 := Lib.hid ((ho9.out.below (below_box w9 (.cells #[.int .i64 (-1), .int .i64 1000000, .int .i64 1000001] 2))).kept hk10 (.inl (by have := hs5.lt; omega)))
          have gz := Z10.out.lt
          have gzx := X10.out.lt
          clear hk10 mv a0 a1 a2 a3 a4 b0 b1 b2 b3 b4 f0 f1 f2 f3 f4
          obtain ⟨a0, a1, a2, a3, a4⟩ := X10.out.cells
          obtain ⟨b0, b1, b2, b3, b4⟩ := Z10.out.cells
          have f0 := Z10.out.frz 0
          have f1 := Z10.out.frz 1
          have f2 := Z10.out.frz 2
          have f3 := Z10.out.frz 3
          have f4 := Z10.out.frz 4
          have fx := X10.out.frz 3
          have hoS := Lib.hid (ho10.out.kept (Kept.at_ (a := w10) w4.heap.size 3 (.int .i64 v) rfl) (.inl (by have := H45.out; omega)))
          have hsS := Lib.hid (hs10.belowB (((Below.refl w.heap.size w10).setCell (p := ⟨w4.heap.size, 3, none⟩) (by omega) (.int .i64 v))) hgs)
          have HKS := Lib.hid (HK10.out.setCell (p := ⟨w4.heap.size, 3, none⟩) (.inr (by omega)) (.int .i64 v))
          have gzS := Lib.hid (show w.heap.size < (w10.setCell ⟨w4.heap.size, 3, none⟩ (.int .i64 v)).heap.size by simpa [World.setCell] using gz)
          go_wp2_with fail
          refine bodyPost_ret (v := .agg #[.int .i64 (2 + r1), .int .i64 r2, .int .i64 r3, .int .i64 v, .slice (some ⟨gf, 0, none⟩) pl cf]) (by simp [results, Try.results114, go_sem, b0, b1, b2, b3, b4]) rfl ?_
          exact DE.mk (kept5 _ _ _ _ _ _ _) hsS.out hgs HKS.out gzS.out hoS.out gz5 HZL l2
        by_cases t3 : r9 = 3
        · obtain ⟨cy, fy⟩ := ho9.out.cell0 HY.out
          have q1 := OI.set ho9.out (j := 0) (by have := HZL.out; omega) (y + 1)
          rw [Nat.zero_add] at q1
          have hoS := Lib.hid q1
          have ge : w.heap.size < gf := by omega
          have hsS := Lib.hid (hs9.belowB (((Below.refl w.heap.size w9).setCell (p := ⟨gf, 0, none⟩) (by simp; omega) (.int .i64 (y + 1)))) hgs)
          have HKS := Lib.hid (HK9.out.setCell (p := ⟨gf, 0, none⟩) (.inr (by simp; omega)) (.int .i64 (y + 1)))
          have gzS := Lib.hid (show w.heap.size < (w9.setCell ⟨gf, 0, none⟩ (.int .i64 (y + 1))).heap.size by simpa [World.setCell] using gz2)
          have HZ1 := Lib.hid (show (zs.set 0 (y + 1)).length = pl by rw [List.length_set]; exact HZL.out)
          have ge1 : w4.heap.size < gf := by have := H45.out; omega
          have ne2 : ¬ w.heap.size = gf := by omega
          have ne3 : ¬ w4.heap.size = gf := by omega
          have ne4 : ¬ gf = w.heap.size := by omega
          have ne5 : ¬ gf = w4.heap.size := by omega
          clear q1
          go_wp2_with fail
          refine bodyPost_ret (v := .agg #[.int .i64 (2 + r1), .int .i64 r2, .int .i64 r3, .int .i64 r4, .slice (some ⟨gf, 0, none⟩) pl cf]) (by simp [results, Try.results114, go_sem, b0, b1, b2, b3, b4]) rfl ?_
          exact DE.mk (kept5 _ _ _ _ _ _ _) hsS.out hgs HKS.out gzS.out hoS.out gz5 HZ1 l2
        go_wp2_with fail
        refine bodyPost_ret (v := .agg #[.int .i64 (2 + r1), .int .i64 r2, .int .i64 r3, .int .i64 r4, .slice (some ⟨gf, 0, none⟩) pl cf]) (by simp [results, Try.results114, go_sem, b0, b1, b2, b3, b4]) rfl ?_
        exact DE.mk (kept5 _ _ _ _ _ _ _) hs9 hgs HK9.out gz2 ho9.out gz5 HZL l2)
end Go.Proofs.Ythpgkngkmmameaa
