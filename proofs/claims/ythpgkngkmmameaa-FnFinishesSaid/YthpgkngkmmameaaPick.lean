/-
  The reference's l27Numbers and l02Pick (a list in a drawn order): what comes out is as long as what went in. Conditions: at most 1000 elements.
-/
import Derived.Test.YthpgkngkmmameaaDrawBase
import Derived.Test.YthpgkngkmmameaaOwn
import Derived.Deep.RegionHeld3
import Derived.Outline
namespace Go.Proofs.Ythpgkngkmmameaa
open Go.RowKit
set_option linter.unusedVariables false
theorem step_appendS {w : World} {ops : Array Oper} {o : Oper} {a : Act} {K : Act → World → Prop} {Q : Exit → Act → World → Prop} {E : Prop} (hgd : o.guard = none) (s x : Operand)
    (ho : o.op = .call { callee := .builtin .append, args := #[s, x], argTypes := #[22, 22] })
    (base g0 n c : Nat) (zs : List Int) (hs : a.eval s = .slice (some ⟨g0, 0, none⟩) n c) (hown : Row w base (some ⟨g0, 0, none⟩) n c zs)
    (b off m cx : Nat) (ys : List Int) (hx : a.eval x = .slice (some ⟨b, off, none⟩) m cx) (hl : ys.length = m) (hy : ∀ (j : Nat) (y : Int), ys[j]? = some y → w.cell? ⟨b, off + j, none⟩ = some (.int .i64 y)) (hlen : n + m ≤ 10000000) (hbase : base ≤ w.heap.size)
    (h : ∀ (g' c' : Nat) (w' : World), Row w' base (some ⟨g', 0, none⟩) (n + m) c' (zs ++ ys) → Below base w w' → w.grownBy w' (some g0) → K (a.put o.dst (.slice (some ⟨g', 0, none⟩) (n + m) c')) w') :
    if Region.wanted o (yielded ops a.tmps) = true then Oper.wp Try.prog o a w K Q else E := by
  have hw : Region.wanted o (yielded ops a.tmps) = true := by simp [Region.wanted, hgd]
  rw [if_pos hw]
  obtain ⟨i0, hi, hz0, hz1, hz2⟩ := info_parts info_int
  refine wp_append_own (P := Try.prog) w s x 22 ho base 2 i0 (.int .i64 0) 1 8 Try.underlying22 hi hz0 hz1 hz2 rfl (by decide) (.slice (some ⟨g0, 0, none⟩) n c) n _ hs hown ⟨b, off, none⟩ m cx (ys.map (.int .i64)) hx (by simp [hl]) ?_ ?_ (by unfold maxLen; omega) (by omega) hbase ?_
  · intro j u hu
    rw [List.getElem?_map] at hu
    cases hj : ys[j]? with
    | none => rw [hj] at hu; simp at hu
    | some y => rw [hj] at hu; simp at hu; subst hu; rw [Addr.add_lit]; exact hy j y hj
  · intro u hu
    rw [List.mem_map] at hu
    obtain ⟨y, -, rfl⟩ := hu
    rfl
  · intro v' w' hown' hg hnil
    obtain ⟨g', c', rfl⟩ : ∃ g' c', v' = .slice (some ⟨g', 0, none⟩) (n + m) c' := by
      rcases hown'.2 with ⟨h0, _⟩ | ⟨g', c', cur, hv, _⟩
      · have := (hnil.1 h0).1
        cases this
      · exact ⟨g', c', hv⟩
    refine h g' c' w' ?_ ?_ hg
    · unfold Row
      simpa using hown'
    · refine (Below.refl _ _).grown hg hbase (fun k hk => ?_)
      exact (World.ownsRow.lt hown k hk).1
theorem bel_al' {a w : World} (h : Below a.heap.size a w) (o : Obj) : Below a.heap.size a (w.alloc o) := h.alloc h.size o
theorem grown_cell {w w' : World} {k g0 : Nat} {v : Value} (hg : w.grownBy w' (some g0)) (h : w.cell? ⟨k, 0, none⟩ = some v) (ne : k ≠ g0) : w'.cell? ⟨k, 0, none⟩ = some v :=
  (World.cell?_of_block (a := ⟨k, 0, none⟩) (hg.block k (World.block_lt_of_cell? w _ h) (by intro e; injection e with e; exact ne e))).trans h
theorem row_second (w : World) (o : Obj) : Row ((w.alloc o).alloc (.cells #[] 2)) w.heap.size (some ⟨w.heap.size + 1, 0, none⟩) 0 0 [] := by
  have := Row.empty (w.alloc o) (base := w.heap.size) (by simp)
  rwa [show (w.alloc o).heap.size = w.heap.size + 1 by simp] at this
theorem row_cast {w : World} {base n n' c : Nat} {A : Option Addr} {zs zs' : List Int} (h : Row w base A n c zs) (h1 : n = n') (h2 : zs = zs') : Row w base A n' c zs' := by subst h1; subst h2; exact h
theorem two {P : Prop} {Q : Prop} (h : P ∧ Q) : Q := h.2
theorem get_take {ys : List Int} {j i : Nat} {y : Int} (h : (ys.take j)[i]? = some y) : ys[i]? = some y := by
  rw [List.getElem?_take] at h
  split at h
  · exact h
  · cases h
theorem Row.mono' {w : World} {base base' : Nat} {A : Option Addr} {n c : Nat} {zs : List Int} (h : Row w base A n c zs) (hb : base' ≤ base) : Row w base' A n c zs := by
  refine ⟨h.1, ?_⟩
  rcases h.2 with a | ⟨g, cap, cur, hv, h1, r⟩
  · exact .inl a
  · exact .inr ⟨g, cap, cur, hv, by omega, r⟩
theorem spec_l27Numbers_c (n : Nat) (w : World) (hn : n ≤ 1000) :
    Calls Try.prog 167 #[.int .i64 n] w fun e w' => ∃ (g c : Nat) (zs : List Int), e = .returned (.slice (some ⟨g, 0, none⟩) n c) ∧ Row w' w.heap.size (some ⟨g, 0, none⟩) n c zs ∧ Below w.heap.size w w' := by
  have hrow := Lib.hid (Row.empty w (Nat.le_refl w.heap.size))
  have hb0 := Lib.hid ((Below.refl w.heap.size w).alloc (Nat.le_refl _) (.cells #[] 2))
  go_enter Try.func167, Try.ntmps167
  go_wp2_with fail
  go_loopw [3, 4] (fun s i wr => ∃ (k g c : Nat) (zs : List Int), s = .slice (some ⟨g, 0, none⟩) k c ∧ i = .int .i64 k ∧ k ≤ n ∧ Hid (Row wr w.heap.size (some ⟨g, 0, none⟩) k c zs) ∧ Hid (Below w.heap.size w wr)) (fun _ i _ => n - (intOf i).toNat)
  case atStart => exact ⟨0, _, _, [], rfl, rfl, Nat.zero_le _, hrow, hb0⟩
  case round =>
    clear hrow hb0
    obtain ⟨k, g, c, zs, rfl, rfl, hk, hr, hb⟩ := hrel
    have hsz := hb.out.size
    by_cases hlt : k < n
    · have i1 : (k : Int) < (n : Int) := by omega
      go_wp2_with (at_builtin; refine wpList_append1 rfl _ _ rfl w.heap.size _ k c zs rfl (Row.alloc hr.out _) wr.heap.size 1 k rfl (by simp) (by omega) (by simp; omega) ?_; intro g2 c2 w2 hr2 hb2 hg2; have HR2 := Lib.hid hr2; have HB2 := Lib.hid ((hb.out.alloc hsz _).trans hb2); clear hr2 hb2 hg2)
      go_roundw
      case rel => exact ⟨k + 1, g2, c2, _, rfl, by go_num, by omega, HR2, HB2⟩
      case measure => simp [intOf]; omega
    · obtain rfl : k = n := by omega
      go_wp2_with fail
      go_ret
      exact ⟨g, c, zs, rfl, hr.out, hb.out⟩
set_option maxRecDepth 100000 in
set_option maxHeartbeats 6000000 in
theorem spec_l02Pick_c (w : World) (lo g : Nat) (A : Option Addr) (n c : Nat) (zs : List Int) (hs : Src w lo g) (hn : zs.length = n) (hm : n ≤ 1000) (hr : RI w A zs) (hA : ∀ a, A = some a → ¬ a.block = g) :
    Calls Try.prog 166 #[.pointer (some ⟨g, 0, none⟩), .slice A n c] w (DL w lo g n n) := by
  have HN := Lib.hid hn
  have hgs := hs.lt.2
  have hrow := Lib.hid (Row.empty w (Nat.le_refl w.heap.size))
  have hsrc := Lib.hid (hs.alloc (.cells #[] 2))
  have hk0 := Lib.hid ((Kept.refl g (g + 1) w).alloc (.cells #[] 2))
  clear hn
  go_enter Try.func166, Try.ntmps166
  go_wp2_with fail
  go_loopw [5, 6] (fun s i wr => ∃ (k q cq : Nat) (ys : List Int), s = .slice (some ⟨q, 0, none⟩) k cq ∧ i = .int .i64 k ∧ k ≤ n ∧ Hid (Row wr w.heap.size (some ⟨q, 0, none⟩) k cq ys) ∧ Hid (Src wr lo g) ∧ Hid (Kept g (g + 1) w wr)) (fun _ i _ => n - (intOf i).toNat)
  case atStart => exact ⟨0, _, _, [], rfl, rfl, Nat.zero_le _, hrow, hsrc, hk0⟩
  case round =>
    clear hrow hsrc hk0
    obtain ⟨k, q, cq, ys, rfl, rfl, hk, hrw, hsr, hkp⟩ := hrel
    by_cases hlt : k < n
    · have i1 : (k : Int) < (n : Int) := by omega
      have i2 : (0 : Int) ≤ (k : Int) := by omega
      go_wp2_with fail
      refine (spec_l01Next_c _ lo g _ hsr.out (by omega)).mono ?_
      rintro e w1 ⟨r, rfl, p, pq, hs1, hk1⟩
      obtain ⟨j, rfl⟩ : ∃ j : Nat, r = (j : Int) := ⟨r.toNat, by omega⟩
      have hjk : j ≤ k := by omega
      have HR1 := Lib.hid (Row.keptS hrw.out hk1 hgs)
      have HS1 := Lib.hid hs1
      have HK1 := Lib.hid (hkp.out.trans hk1)
      have HYL := Lib.hid hrw.out.length
      have hkc := Row.cap HR1.out
      clear hs1 hk1 hrw hsr hkp pq
      rcases hr.split with h0 | ⟨b, off, rfl, hb, hc⟩
      · exfalso; have := HN.out; omega
      obtain ⟨x, hx⟩ := get_some (zs := zs) (k := k) (by rw [HN.out]; exact hlt)
      have hbg : ¬ b = g := hA _ rfl
      have hw1 := HK1.out.size
      have hcx := (World.cell?_of_block (a := ⟨b, off + k, none⟩) (HK1.out.block b hb (by omega))).trans (hc.out k x hx)
      have hb1 : b < w1.heap.size := Nat.lt_of_lt_of_le hb hw1
      have hrq : q < w1.heap.size := (World.ownsRow.lt HR1.out _ rfl).2
      have mk : ∀ w' : World, Below w1.heap.size w1 w' → w'.cell? ⟨b, off + k, none⟩ = some (.int .i64 x) ∧ Below w1.heap.size w1 w' := fun w' hB => ⟨(hB.cell (p := ⟨b, off + k, none⟩) hb1).trans hcx, hB⟩
      have MK := Lib.hid mk
      have RY := Lib.hid (show RI w1 (some ⟨q, 0, none⟩) ys from HR1.out.oi.ri)
      clear hx hc mk
      have j1 : (j : Int) ≤ (k : Int) := by omega
      have j2 : (0 : Int) ≤ (j : Int) := by omega
      have j3 : (j : Int) ≤ (cq : Int) := by omega
      have R0 := Lib.hid (Row.empty w1 (Nat.le_refl w1.heap.size))
      have hq1 : q < w1.heap.size := hrq
      have YC := Lib.hid (show ∀ (i : Nat) (y : Int), ys[i]? = some y → w1.cell? ⟨q, 0 + i, none⟩ = some (.int .i64 y) from fun i y hy => (HR1.out.oi.cellX hy).1)
      have hjk2 : j ≤ k := hjk
      have LT := Lib.hid (show (ys.take j).length = j by have := HYL.out; simp; omega)
      by_cases hjc : cq = j
      · have hkj : k = j := by omega
        obtain rfl : j = cq := hjc.symm
        have HKJ := Lib.hid hkj
        clear hkj hjk hkc
        have LD := Lib.hid (show ([] : List Int).length = k - j by have := HKJ.out; simp; omega)
        have YD := Lib.hid (show ∀ (i : Nat) (y : Int), ([] : List Int)[i]? = some y → w1.cell? ⟨q, 0 + i, none⟩ = some (.int .i64 y) from fun i y hy => by cases hy)
        go_wp2_with fail
        go_region_held3 (fun w' => w'.cell? ⟨b, off + k, none⟩ = some (.int .i64 x) ∧ Below w1.heap.size w1 w')
          ((first
            | exact MK.out _ (Below.refl _ _).drew
            | exact MK.out _ (bel_al' (Below.refl _ _) _).drew
            | exact MK.out _ (bel_al' (bel_al' (Below.refl _ _) _) _).drew
            | exact MK.out _ B4
            | exact MK.out _ B3
            | exact MK.out _ (bel_al' B2 _)
            | exact MK.out _ B2
            | exact MK.out _ (bel_al' (two (by assumption)) _)
            | exact MK.out _ (two (by assumption))))
          ((first
            | (refine step_appendS (by rfl) _ _ (by rfl) w1.heap.size _ 0 0 [] (by rfl) (Row.empty w1 (Nat.le_refl _)) q 0 j j (ys.take j) (by rfl) LT.out (fun i y hy => ((bel_al' (Below.refl w1.heap.size w1) _).drew.cell (p := ⟨q, 0 + i, none⟩) hq1).trans (YC.out i y (get_take hy))) (by omega) (by first | exact (bel_al' (Below.refl w1.heap.size w1) _).drew.size | exact (bel_al' (bel_al' (Below.refl w1.heap.size w1) _) _).drew.size) ?_; intro g2 c2 w2 hr2 hb2 hg2; have R2 := Lib.hid (row_cast hr2 (Nat.zero_add j) (List.nil_append _)); have R2z := Lib.hid (row_cast hr2 rfl (List.nil_append _)); have B2 : Below w1.heap.size w1 w2 := (bel_al' (Below.refl _ _) _).drew.trans hb2)
            | (refine step_appendS (by rfl) _ _ (by rfl) w1.heap.size _ 0 0 [] (by rfl) (Row.alloc (Row.empty w1 (Nat.le_refl _)) _) q 0 j j (ys.take j) (by rfl) LT.out (fun i y hy => ((bel_al' (bel_al' (Below.refl w1.heap.size w1) _) _).drew.cell (p := ⟨q, 0 + i, none⟩) hq1).trans (YC.out i y (get_take hy))) (by omega) (by first | exact (bel_al' (Below.refl w1.heap.size w1) _).drew.size | exact (bel_al' (bel_al' (Below.refl w1.heap.size w1) _) _).drew.size) ?_; intro g2 c2 w2 hr2 hb2 hg2; have R2 := Lib.hid (row_cast hr2 (Nat.zero_add j) (List.nil_append _)); have R2z := Lib.hid (row_cast hr2 rfl (List.nil_append _)); have B2 : Below w1.heap.size w1 w2 := (bel_al' (bel_al' (Below.refl _ _) _) _).drew.trans hb2; have HX2 := Lib.hid (show w2.cell? ⟨w1.heap.size + 1, 0, none⟩ = some (.int .i64 x) from grown_cell hg2 (by simp) (by omega)))
            | (refine step_appendS (by rfl) _ _ (by rfl) w1.heap.size _ 0 0 [] (by rfl) (row_second w1 _) q 0 j j (ys.take j) (by rfl) LT.out (fun i y hy => ((bel_al' (bel_al' (Below.refl w1.heap.size w1) _) _).drew.cell (p := ⟨q, 0 + i, none⟩) hq1).trans (YC.out i y (get_take hy))) (by omega) (by first | exact (bel_al' (Below.refl w1.heap.size w1) _).drew.size | exact (bel_al' (bel_al' (Below.refl w1.heap.size w1) _) _).drew.size) ?_; intro g2 c2 w2 hr2 hb2 hg2; have R2 := Lib.hid (row_cast hr2 (Nat.zero_add j) (List.nil_append _)); have R2z := Lib.hid (row_cast hr2 rfl (List.nil_append _)); have B2 : Below w1.heap.size w1 w2 := (bel_al' (bel_al' (Below.refl _ _) _) _).drew.trans hb2; have HX2 := Lib.hid (show w2.cell? ⟨w1.heap.size, 0, none⟩ = some (.int .i64 x) from grown_cell hg2 (by simp) (by simp)))
            | (refine step_append1 (by rfl) _ _ (by rfl) w1.heap.size (some ⟨g2, 0, none⟩) j c2 _ (by rfl) (Row.alloc R2.out _) w2.heap.size 1 x (by rfl) (by simp) (by omega) (by have := B2.size; simp; omega) ?_; intro g3 c3 w3 hr3 hb3; have R3 := Lib.hid hr3; have B3 : Below w1.heap.size w1 w3 := (bel_al' B2 _).trans hb3)
            | (refine step_append1 (by rfl) _ _ (by rfl) w1.heap.size (some ⟨g2, 0, none⟩) j c2 _ (by rfl) R2.out _ 1 x (by rfl) HX2.out (by omega) B2.size ?_; intro g3 c3 w3 hr3 hb3; have R3 := Lib.hid hr3; have B3 : Below w1.heap.size w1 w3 := B2.trans hb3)
            | (refine step_append1 (by rfl) _ _ (by rfl) w1.heap.size (some ⟨g2, 0, none⟩) (0 + j) c2 _ (by rfl) R2z.out _ 1 x (by rfl) HX2.out (by omega) B2.size ?_; intro g3 c3 w3 hr3 hb3; have R3 := Lib.hid (row_cast hr3 (show 0 + j + 1 = j + 1 by omega) rfl); have R3z := Lib.hid hr3; have B3 : Below w1.heap.size w1 w3 := B2.trans hb3)
            | (refine step_appendS (by rfl) _ _ (by rfl) w1.heap.size g3 (j + 1) c3 _ (by rfl) R3.out q 0 (k - j) 0 [] (by rfl) LD.out (fun i y hy => (B3.cell (p := ⟨q, 0 + i, none⟩) hq1).trans (YD.out i y hy)) (by omega) B3.size ?_; intro g4 c4 w4 hr4 hb4 hg4; have R4 := Lib.hid hr4; have B4 : Below w1.heap.size w1 w4 := B3.trans hb4)
            | (refine step_appendS (by rfl) _ _ (by rfl) w1.heap.size g3 (0 + j + 1) c3 _ (by rfl) R3z.out q 0 (k - j) 0 [] (by rfl) LD.out (fun i y hy => (B3.cell (p := ⟨q, 0 + i, none⟩) hq1).trans (YD.out i y hy)) (by omega) B3.size ?_; intro g4 c4 w4 hr4 hb4 hg4; have R4 := Lib.hid hr4; have B4 : Below w1.heap.size w1 w4 := B3.trans hb4)))
        all_goals
          have K4 := Lib.hid (HK1.out.trans (Kept.of_below B4 g (g + 1)))
          have S4 := Lib.hid (HS1.out.below B4)
          have RW := Lib.hid (show Row w4 w.heap.size (some ⟨g4, 0, none⟩) (k + 1) c4 _ from row_cast (Row.mono' R4.out hw1) (by have := hjk2; omega) rfl)
          clear R4
          go_wp2_with fail
          go_roundw
          case rel => exact ⟨k + 1, g4, c4, _, by first | rfl | (congr 1; have := hjk2; omega), by go_num, by omega, RW, S4, K4⟩
          case measure => simp [intOf]; omega
      · have LD := Lib.hid (show (ys.drop j).length = k - j by have := HYL.out; simp; omega)
        have YD := Lib.hid (show ∀ (i : Nat) (y : Int), (ys.drop j)[i]? = some y → w1.cell? ⟨q, j + i, none⟩ = some (.int .i64 y) from fun i y hy => by rw [List.getElem?_drop] at hy; have := YC.out (j + i) y hy; rwa [Nat.zero_add] at this)
        go_wp2_with fail
        go_region_held3 (fun w' => w'.cell? ⟨b, off + k, none⟩ = some (.int .i64 x) ∧ Below w1.heap.size w1 w')
          ((first
            | exact MK.out _ (Below.refl _ _).drew
            | exact MK.out _ (bel_al' (Below.refl _ _) _).drew
            | exact MK.out _ (bel_al' (bel_al' (Below.refl _ _) _) _).drew
            | exact MK.out _ B4
            | exact MK.out _ B3
            | exact MK.out _ (bel_al' B2 _)
            | exact MK.out _ B2
            | exact MK.out _ (bel_al' (two (by assumption)) _)
            | exact MK.out _ (two (by assumption))))
          ((first
            | (refine step_appendS (by rfl) _ _ (by rfl) w1.heap.size _ 0 0 [] (by rfl) (Row.empty w1 (Nat.le_refl _)) q 0 j cq (ys.take j) (by rfl) LT.out (fun i y hy => ((bel_al' (Below.refl w1.heap.size w1) _).drew.cell (p := ⟨q, 0 + i, none⟩) hq1).trans (YC.out i y (get_take hy))) (by omega) (by first | exact (bel_al' (Below.refl w1.heap.size w1) _).drew.size | exact (bel_al' (bel_al' (Below.refl w1.heap.size w1) _) _).drew.size) ?_; intro g2 c2 w2 hr2 hb2 hg2; have R2 := Lib.hid (row_cast hr2 (Nat.zero_add j) (List.nil_append _)); have R2z := Lib.hid (row_cast hr2 rfl (List.nil_append _)); have B2 : Below w1.heap.size w1 w2 := (bel_al' (Below.refl _ _) _).drew.trans hb2)
            | (refine step_appendS (by rfl) _ _ (by rfl) w1.heap.size _ 0 0 [] (by rfl) (Row.alloc (Row.empty w1 (Nat.le_refl _)) _) q 0 j cq (ys.take j) (by rfl) LT.out (fun i y hy => ((bel_al' (bel_al' (Below.refl w1.heap.size w1) _) _).drew.cell (p := ⟨q, 0 + i, none⟩) hq1).trans (YC.out i y (get_take hy))) (by omega) (by first | exact (bel_al' (Below.refl w1.heap.size w1) _).drew.size | exact (bel_al' (bel_al' (Below.refl w1.heap.size w1) _) _).drew.size) ?_; intro g2 c2 w2 hr2 hb2 hg2; have R2 := Lib.hid (row_cast hr2 (Nat.zero_add j) (List.nil_append _)); have R2z := Lib.hid (row_cast hr2 rfl (List.nil_append _)); have B2 : Below w1.heap.size w1 w2 := (bel_al' (bel_al' (Below.refl _ _) _) _).drew.trans hb2; have HX2 := Lib.hid (show w2.cell? ⟨w1.heap.size + 1, 0, none⟩ = some (.int .i64 x) from grown_cell hg2 (by simp) (by omega)))
            | (refine step_appendS (by rfl) _ _ (by rfl) w1.heap.size _ 0 0 [] (by rfl) (row_second w1 _) q 0 j cq (ys.take j) (by rfl) LT.out (fun i y hy => ((bel_al' (bel_al' (Below.refl w1.heap.size w1) _) _).drew.cell (p := ⟨q, 0 + i, none⟩) hq1).trans (YC.out i y (get_take hy))) (by omega) (by first | exact (bel_al' (Below.refl w1.heap.size w1) _).drew.size | exact (bel_al' (bel_al' (Below.refl w1.heap.size w1) _) _).drew.size) ?_; intro g2 c2 w2 hr2 hb2 hg2; have R2 := Lib.hid (row_cast hr2 (Nat.zero_add j) (List.nil_append _)); have R2z := Lib.hid (row_cast hr2 rfl (List.nil_append _)); have B2 : Below w1.heap.size w1 w2 := (bel_al' (bel_al' (Below.refl _ _) _) _).drew.trans hb2; have HX2 := Lib.hid (show w2.cell? ⟨w1.heap.size, 0, none⟩ = some (.int .i64 x) from grown_cell hg2 (by simp) (by simp)))
            | (refine step_append1 (by rfl) _ _ (by rfl) w1.heap.size (some ⟨g2, 0, none⟩) j c2 _ (by rfl) (Row.alloc R2.out _) w2.heap.size 1 x (by rfl) (by simp) (by omega) (by have := B2.size; simp; omega) ?_; intro g3 c3 w3 hr3 hb3; have R3 := Lib.hid hr3; have B3 : Below w1.heap.size w1 w3 := (bel_al' B2 _).trans hb3)
            | (refine step_append1 (by rfl) _ _ (by rfl) w1.heap.size (some ⟨g2, 0, none⟩) j c2 _ (by rfl) R2.out _ 1 x (by rfl) HX2.out (by omega) B2.size ?_; intro g3 c3 w3 hr3 hb3; have R3 := Lib.hid hr3; have B3 : Below w1.heap.size w1 w3 := B2.trans hb3)
            | (refine step_append1 (by rfl) _ _ (by rfl) w1.heap.size (some ⟨g2, 0, none⟩) (0 + j) c2 _ (by rfl) R2z.out _ 1 x (by rfl) HX2.out (by omega) B2.size ?_; intro g3 c3 w3 hr3 hb3; have R3 := Lib.hid (row_cast hr3 (show 0 + j + 1 = j + 1 by omega) rfl); have R3z := Lib.hid hr3; have B3 : Below w1.heap.size w1 w3 := B2.trans hb3)
            | (refine step_appendS (by rfl) _ _ (by rfl) w1.heap.size g3 (j + 1) c3 _ (by rfl) R3.out q j (k - j) (cq - j) (ys.drop j) (by rfl) LD.out (fun i y hy => (B3.cell (p := ⟨q, j + i, none⟩) hq1).trans (YD.out i y hy)) (by omega) B3.size ?_; intro g4 c4 w4 hr4 hb4 hg4; have R4 := Lib.hid hr4; have B4 : Below w1.heap.size w1 w4 := B3.trans hb4)
            | (refine step_appendS (by rfl) _ _ (by rfl) w1.heap.size g3 (0 + j + 1) c3 _ (by rfl) R3z.out q j (k - j) (cq - j) (ys.drop j) (by rfl) LD.out (fun i y hy => (B3.cell (p := ⟨q, j + i, none⟩) hq1).trans (YD.out i y hy)) (by omega) B3.size ?_; intro g4 c4 w4 hr4 hb4 hg4; have R4 := Lib.hid hr4; have B4 : Below w1.heap.size w1 w4 := B3.trans hb4)))
        all_goals
          have K4 := Lib.hid (HK1.out.trans (Kept.of_below B4 g (g + 1)))
          have S4 := Lib.hid (HS1.out.below B4)
          have RW := Lib.hid (show Row w4 w.heap.size (some ⟨g4, 0, none⟩) (k + 1) c4 _ from row_cast (Row.mono' R4.out hw1) (by have := hjk2; omega) rfl)
          clear R4
          go_wp2_with fail
          go_roundw
          case rel => exact ⟨k + 1, g4, c4, _, by first | rfl | (congr 1; have := hjk2; omega), by go_num, by omega, RW, S4, K4⟩
          case measure => simp [intOf]; omega
    · obtain rfl : k = n := by omega
      have hcap := Row.cap hrw.out
      go_wp2_with fail
      go_ret
      exact ⟨_, _, _, ys, rfl, Lib.hid hrw.out.length, Nat.le_refl _, Nat.le_refl _, hcap, hrw.out.oi, hsr.out, hkp.out⟩
end Go.Proofs.Ythpgkngkmmameaa
