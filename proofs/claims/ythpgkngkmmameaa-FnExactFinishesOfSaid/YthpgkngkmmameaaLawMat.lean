/-
  The contracts of the laws' own helpers on [][]int64: size, copy, compare, mark; how such an argument comes in. Conditions: sizes as the law checks them; what is marked is the copy's own.
-/
import Derived.Test.YthpgkngkmmameaaMat
import Derived.Test.YthpgkngkmmameaaLawEv
import Derived.Test.YthpgkngkmmameaaFrameEv
import Derived.Deep.Matrix
namespace Go.Proofs.Ythpgkngkmmameaa
open Go.RowKit
set_option linter.unusedVariables false
def totN (rows : List (List Int)) : Nat := (rows.map List.length).sum
theorem totN_step {rows : List (List Int)} {k : Nat} {zs : List Int} (h : rows[k]? = some zs) : totN (rows.take (k + 1)) = totN (rows.take k) + zs.length := by
  unfold totN
  rw [List.take_add_one, h, List.map_append, List.sum_append]
  simp
theorem totN_take (rows : List (List Int)) (k : Nat) : totN (rows.take k) ≤ totN rows := by
  have : totN rows = totN (rows.take k) + totN (rows.drop k) := by
    unfold totN
    rw [← List.sum_append, ← List.map_append, List.take_append_drop]
  omega
theorem totN_mem {rows : List (List Int)} {zs : List Int} (h : zs ∈ rows) : zs.length ≤ totN rows := by
  obtain ⟨k, hk, rfl⟩ := List.getElem_of_mem h
  have h1 := totN_step (rows := rows) (k := k) (List.getElem?_eq_getElem hk)
  have := totN_take rows (k + 1)
  omega
/-- What a slice of slices that came in is. -/
structure IsMat (w : World) (A : Option Addr) (n : Nat) (rows : List (List Int)) : Prop where
  len : rows.length = n
  max : n ≤ 9223372036854775807
  row : ∀ g ∈ rows, g.length ≤ 9223372036854775807
  m : RM w A rows
theorem addr_lit {w : World} {a : Addr} {v : Value} (h : w.cell? (a.add 0) = some v) : ∃ b off, a = ⟨b, off, none⟩ ∧ b < w.heap.size := by
  obtain ⟨b, off, spot⟩ := a
  cases spot with
  | none => exact ⟨b, off, rfl, World.block_lt_of_cell? w _ (by rw [Addr.add_lit] at h; exact h)⟩
  | some q =>
    simp only [Addr.add, ↓reduceIte, World.cell?] at h
    split at h <;> simp at h
theorem ri_row {w : World} {A : Option Addr} {L C : Nat} {Z : List Int} (hLC : L ≤ C) (hZ : Z.length = C) (hn : A = none → C = 0) (hc : ∀ a', A = some a' → ∀ c, c < C → w.cell? (a'.add c) = some (.int .i64 (Z.getD c 0))) : RI w A (Z.take L) := by
  rcases Nat.eq_zero_or_pos L with h0 | h0
  · exact .inl (by rw [h0]; rfl)
  · cases hA : A with
    | none => have := hn hA; omega
    | some a =>
      obtain ⟨b, off, rfl, hb⟩ := addr_lit (hc a hA 0 (by omega))
      refine .inr ⟨b, off, rfl, hb, fun j x hx => ?_⟩
      have hj : j < L := by
        have := (List.getElem?_eq_some_iff.1 hx).1
        rw [List.length_take] at this
        omega
      have h2 := hc _ hA j (by omega)
      rw [Addr.add_lit] at h2
      rw [h2]
      rw [List.getElem?_take_of_lt hj] at hx
      simp [List.getD, hx]
theorem IsMat.below {w w' : World} {A : Option Addr} {n : Nat} {rows : List (List Int)} (h : IsMat w A n rows) (hb : Below w.heap.size w w') : IsMat w' A n rows := ⟨h.len, h.max, h.row, h.m.below hb⟩
theorem isMat_nil (w : World) : IsMat w none 0 [] := ⟨rfl, by omega, (fun g hg => by cases hg), .inl rfl⟩
theorem isMat_some {w : World} {base : Nat} {x : Addr} {len cap : Nat} {A : Nat → Option Addr} {L C : Nat → Nat} {Z : Nat → List Int} (hl : len ≤ cap) (hm : cap ≤ maxLen)
    (h : ∀ r, r < cap → w.cell? (x.add r) = some (.slice (A r) (L r) (C r)) ∧ L r ≤ C r ∧ C r ≤ maxLen ∧ (Z r).length = C r ∧ (∀ n ∈ Z r, (Lit.int .i64 n).wf = true) ∧ (A r = none → C r = 0) ∧ ∀ a', A r = some a' → base ≤ a'.block ∧ ∀ c, c < C r → w.cell? (a'.add c) = some (.int .i64 ((Z r).getD c 0))) :
    IsMat w (some x) len ((List.range len).map fun r => (Z r).take (L r)) := by
  unfold maxLen at hm
  refine ⟨by simp, by omega, fun g hg => ?_, ?_⟩
  · obtain ⟨r, hr, rfl⟩ := List.mem_map.1 hg
    obtain ⟨-, a, b, -⟩ := h r (by have := List.mem_range.1 hr; omega)
    unfold maxLen at b
    rw [List.length_take]
    omega
  · rcases Nat.eq_zero_or_pos len with h0 | h0
    · exact .inl (by rw [h0]; rfl)
    · obtain ⟨b, off, rfl, hb⟩ := addr_lit (h 0 (by omega)).1
      refine .inr ⟨b, off, rfl, hb, fun j zs hj => ?_⟩
      have hjl : j < len := by
        have := (List.getElem?_eq_some_iff.1 hj).1
        simpa using this
      obtain ⟨e1, e2, e3, e4, -, e5, e6⟩ := h j (by omega)
      have hz : zs = (Z j).take (L j) := by simpa [hjl] using hj.symm
      subst hz
      refine ⟨A j, C j, ?_, ri_row e2 e4 e5 fun a' ha c hc => (e6 a' ha).2 c hc⟩
      rw [Addr.add_lit] at e1
      rw [e1, List.length_take, e4, Nat.min_eq_left e2]
/-- What is left of a size. -/
def SzM (rows : List (List Int)) (l : Int) (w : World) (e : Ending) (w' : World) : Prop := ∃ v : Int, e = .returned (.int .i64 v) ∧ (0 ≤ v → (rows.length : Int) + totN rows ≤ l) ∧ w = w'
theorem laws_szInt64SS_c (A : Option Addr) (n c : Nat) (l : Int) (rows : List (List Int)) (w : World) (hl0 : 0 ≤ l) (hl1 : l ≤ 1048576) (hr : IsMat w A n rows) :
    Calls Try.prog 45 #[.slice A n c, .int .i64 l] w (SzM rows l w) := by
  have hm := hr.max
  have HN := Lib.hid hr.len
  by_cases h : l < n
  · go_enter Try.func45, Try.ntmps45
    go_wp2_with fail
    go_ret
    exact ⟨-1, rfl, fun h => by omega, rfl⟩
  · have h2 : (n : Int) ≤ l := by omega
    have HR := Lib.hid hr.row
    have HM := Lib.hid hr.m
    clear hr hm
    go_enter Try.func45, Try.ntmps45
    go_wp2_with fail
    go_loop [1, 5] (fun t i => ∃ (k : Nat) (v : Int), t = .int .i64 v ∧ i = .int .i64 k ∧ k ≤ n ∧ Hid (v = l - n - totN (rows.take k)) ∧ 0 ≤ v ∧ v ≤ l) (fun _ i => n - (intOf i).toNat)
    case atStart => exact ⟨0, l - n, rfl, rfl, Nat.zero_le _, Lib.hid (by simp [totN]), by omega, by omega⟩
    case round =>
      obtain ⟨k, v, rfl, rfl, hk, hv, v0, v1⟩ := hrel
      by_cases hlt : k < n
      · obtain ⟨zs, hzs⟩ := getM (rows := rows) (k := k) (by rw [HN.out]; exact hlt)
        rcases HM.out.split with h0 | ⟨b, off, rfl, hb, hc⟩
        · exfalso; have := HN.out; omega
        obtain ⟨A', c', e1, -⟩ := hc.out k zs hzs
        have i1 : (k : Int) < (n : Int) := by omega
        have i2 : (0 : Int) ≤ (k : Int) := by omega
        have hq := HR.out zs (List.mem_of_getElem? hzs)
        have HS := Lib.hid (totN_step hzs)
        obtain ⟨q, hqe⟩ : ∃ q, zs.length = q := ⟨_, rfl⟩
        rw [hqe] at e1 hq HS
        clear hzs hc hqe
        go_wp2_with fail
        refine (laws_szInt64S_c _ _ _ _ _ v0 (by omega) hq).mono ?_
        rintro e w' ⟨rfl, rfl⟩
        by_cases hvq : v < q
        · rw [if_pos hvq]
          go_wp2_with fail
          go_ret
          exact ⟨-1, rfl, fun h => by omega, rfl⟩
        · rw [if_neg hvq]
          have hge : ¬ v - (q : Int) < 0 := by omega
          go_wp2_with fail
          go_round
          case rel => exact ⟨k + 1, v - q, rfl, by go_num, by omega, Lib.hid (by rw [HS.out, hv.out]; push_cast; omega), by omega, by omega⟩
          case measure => simp [intOf]; omega
      · have HT := Lib.hid (show totN rows = totN (rows.take k) by rw [List.take_of_length_le (by rw [HN.out]; omega)])
        go_wp2_with fail
        go_ret
        exact ⟨v, rfl, fun _ => by rw [HT.out, HN.out]; have := hv.out; omega, rfl⟩
/-- A copy that is owned: the outer block g0, the rows in blocks of their own. -/
def OM (w : World) (lo hi g0 : Nat) (rows : List (List Int)) : Prop :=
  lo ≤ g0 ∧ g0 < hi ∧ g0 < w.heap.size ∧ ∃ G : Nat → Nat, (∀ (j : Nat) (zs : List Int), rows[j]? = some zs → w.cell? ⟨g0, j, none⟩ = some (.slice (some ⟨G j, 0, none⟩) zs.length zs.length) ∧ OI w (G j) (G j + 1) (some ⟨G j, 0, none⟩) zs ∧ (zs ≠ [] → g0 < G j ∧ G j < hi)) ∧
    ∀ (i j : Nat) (zs zs' : List Int), i < j → rows[i]? = some zs → rows[j]? = some zs' → zs ≠ [] → zs' ≠ [] → G i ≠ G j
theorem OM.rm {w : World} {lo hi g0 : Nat} {rows : List (List Int)} (h : OM w lo hi g0 rows) : RM w (some ⟨g0, 0, none⟩) rows := by
  obtain ⟨h1, h2, h3, G, h4, h5⟩ := h
  refine .inr ⟨g0, 0, rfl, h3, fun j zs hj => ?_⟩
  obtain ⟨a, b, -⟩ := h4 j zs hj
  exact ⟨_, _, by rw [Nat.zero_add]; exact a, b.ri⟩
theorem OM.below {w w' : World} {lo hi g0 : Nat} {rows : List (List Int)} (h : OM w lo hi g0 rows) (hb : Below w.heap.size w w') : OM w' lo hi g0 rows := by
  obtain ⟨h1, h2, h3, G, h4, h5⟩ := h
  refine ⟨h1, h2, Nat.lt_of_lt_of_le h3 hb.size, G, fun j zs hj => ?_, h5⟩
  obtain ⟨a, b, c⟩ := h4 j zs hj
  exact ⟨(hb.cell (p := ⟨g0, j, none⟩) h3).trans a, b.below hb, c⟩
theorem OM.kept {w w' : World} {lo hi g0 l h' : Nat} {rows : List (List Int)} (h : OM w lo hi g0 rows) (hk : Kept l h' w w') (hd : h' ≤ lo ∨ hi ≤ l) : OM w' lo hi g0 rows := by
  obtain ⟨h1, h2, h3, G, h4, h5⟩ := h
  refine ⟨h1, h2, Nat.lt_of_lt_of_le h3 hk.size, G, fun j zs hj => ?_, h5⟩
  obtain ⟨a, b, c⟩ := h4 j zs hj
  refine ⟨(World.cell?_of_block (a := ⟨g0, j, none⟩) (hk.block g0 h3 (by omega))).trans a, ?_, c⟩
  by_cases hz : zs = []
  · exact .inl hz
  · have := c hz
    exact b.kept hk (by omega)
theorem info_rows : (Try.prog.info? 22).map (fun i => (i.zero, i.size, i.bytes)) = some (some (.slice none 0 0), 1, 24) := by kernel_rfl
/-- The copy, up to row k. -/
structure CpSt (w wr : World) (g0 n k : Nat) (rows : List (List Int)) (G : Nat → Nat) : Prop where
  b0 : w.heap.size ≤ g0
  z : g0 < wr.heap.size
  f : ∀ j, wr.frozen? ⟨g0, j, none⟩ = false
  c : ∀ j, j < n → ∃ v, wr.cell? ⟨g0, j, none⟩ = some v
  d : ∀ (j : Nat) (zs : List Int), j < k → rows[j]? = some zs → wr.cell? ⟨g0, j, none⟩ = some (.slice (some ⟨G j, 0, none⟩) zs.length zs.length) ∧ OI wr (G j) (G j + 1) (some ⟨G j, 0, none⟩) zs ∧ (zs ≠ [] → g0 < G j ∧ G j < wr.heap.size)
  i : ∀ (i j : Nat) (zs zs' : List Int), i < j → j < k → rows[i]? = some zs → rows[j]? = some zs' → zs ≠ [] → zs' ≠ [] → G i ≠ G j
  below : Below w.heap.size w wr
theorem CpSt.step {w wr w1 : World} {g0 n k g : Nat} {rows : List (List Int)} {G : Nat → Nat} {zs : List Int} (h : CpSt w wr g0 n k rows G) (hk : rows[k]? = some zs) (hkn : k < n) (hb : Below wr.heap.size wr w1) (ho : OI w1 wr.heap.size w1.heap.size (some ⟨g, 0, none⟩) zs) :
    CpSt w (w1.setCell ⟨g0, k, none⟩ (.slice (some ⟨g, 0, none⟩) zs.length zs.length)) g0 n (k + 1) rows (fun j => if j = k then g else G j) := by
  have hz := h.z
  have hg : zs ≠ [] → wr.heap.size ≤ g ∧ g < w1.heap.size := fun hne => by
    have := OI.lt ho (by cases zs with
      | nil => exact absurd rfl hne
      | cons a l => simp)
    omega
  have hsz : (w1.setCell ⟨g0, k, none⟩ (.slice (some ⟨g, 0, none⟩) zs.length zs.length)).heap.size = w1.heap.size := by simp [World.setCell]
  refine ⟨h.b0, by rw [hsz]; exact Nat.lt_of_lt_of_le hz hb.size, fun j => ?_, fun j hj => ?_, fun j ys hj hr => ?_, fun i j ys zs' hij hj hi hr h1 h2 => ?_, (below_step h.below hb h.below.size).setCell h.b0 _⟩
  · have := (hb.frozen (p := ⟨g0, j, none⟩) hz).trans (h.f j)
    simpa using this
  · by_cases hjk : j = k
    · subst hjk
      obtain ⟨v, hv⟩ := h.c j hj
      exact ⟨_, World.cell?_setCell_same _ _ _ ((hb.cell (p := ⟨g0, j, none⟩) hz).trans hv)⟩
    · obtain ⟨v, hv⟩ := h.c j hj
      exact ⟨v, by rw [World.cell?_setCell_other _ _ _ _ (fun e => by injection e; omega)]; exact (hb.cell (p := ⟨g0, j, none⟩) hz).trans hv⟩
  · by_cases hjk : j = k
    · subst hjk
      rw [hk] at hr
      injection hr with hr
      subst hr
      simp only [if_true]
      obtain ⟨v, hv⟩ := h.c j hkn
      refine ⟨World.cell?_setCell_same _ _ _ ((hb.cell (p := ⟨g0, j, none⟩) hz).trans hv), ?_, fun hne => by have := hg hne; rw [hsz]; omega⟩
      by_cases hne : zs = []
      · exact .inl hne
      · have := hg hne
        exact (ho.exact).kept (Kept.at_ g0 j _ rfl) (by omega)
    · simp only [if_neg hjk]
      obtain ⟨a, b, c⟩ := h.d j ys (by omega) hr
      refine ⟨by rw [World.cell?_setCell_other _ _ _ _ (fun e => by injection e; omega)]; exact (hb.cell (p := ⟨g0, j, none⟩) hz).trans a, ?_, fun hne => by have := c hne; have := hb.size; rw [hsz]; omega⟩
      by_cases hne : ys = []
      · exact .inl hne
      · have := c hne
        exact (b.below hb).kept (Kept.at_ g0 k _ rfl) (by omega)
  · by_cases hjk : j = k
    · subst hjk
      rw [hk] at hr
      injection hr with hr
      subst hr
      simp only [if_true, if_neg (show ¬ i = j by omega)]
      have a := (h.d i ys hij hi).2.2 h1
      have b := hg h2
      omega
    · simp only [if_neg hjk, if_neg (show ¬ i = k by omega)]
      exact h.i i j ys zs' hij (by omega) hi hr h1 h2
set_option maxHeartbeats 1000000 in
theorem laws_toInt64SS_c (A : Option Addr) (n c : Nat) (rows : List (List Int)) (w : World) (hn : rows.length = n) (hm : n ≤ 1048576) (hz : Hid (∀ g ∈ rows, g.length ≤ 1048576)) (hr : RM w A rows) :
    Calls Try.prog 48 #[.slice A n c] w fun e w' => ∃ g, e = .returned (.slice (some ⟨g, 0, none⟩) n n) ∧ OM w' w.heap.size w'.heap.size g rows ∧ Below w.heap.size w w' := by
  have HN := Lib.hid hn
  obtain ⟨i0, hi, hz0, hz1, hz2⟩ := info_parts info_rows
  clear hn
  go_enter Try.func48, Try.ntmps48
  go_wp2_with (at_make; refine wpList_make_full _ rfl _ _ _ rfl w.heap.size 22 i0 _ 1 Try.underlying54 hi hz0 hz1 _ _ _ _ n rfl rfl rfl rfl (by rw [hz2]; omega) (by unfold maxLen; omega) (Nat.le_refl _) ?_; intro w1 hown1 hg1; have RO1 := Lib.hid hown1; have GR1 := Lib.hid hg1; clear hown1 hg1)
  have CS := Lib.hid (show CpSt w w1 w.heap.size n 0 rows (fun _ => 0) from ⟨Nat.le_refl _, (World.ownsRow.lt RO1.out _ rfl).2, fun j => RO1.out.frozenAt j, fun j hj => ⟨_, by
      rw [RO1.out.cellAt j (by omega), Nat.mul_one, show (Value.slice none 0 0).cells = #[Value.slice none 0 0] from rfl, toList_madeCells_one, List.getElem?_replicate, if_pos hj]⟩,
    fun j zs hj => absurd hj (Nat.not_lt_zero _), fun i j zs zs' hij hj => absurd hj (Nat.not_lt_zero _), (Below.refl _ _).grown GR1.out (Nat.le_refl _) (by simp)⟩)
  clear RO1 GR1 hi hz0 hz1 hz2
  obtain ⟨g0, hg0⟩ : ∃ g0, w.heap.size = g0 := ⟨_, rfl⟩
  rw [hg0] at CS
  rw [hg0]
  go_loopw [4] (fun i wr => ∃ (k : Nat) (G : Nat → Nat), i = .int .i64 k ∧ k ≤ n ∧ Hid (CpSt w wr g0 n k rows G)) (fun i _ => n - (intOf i).toNat)
  case atStart => exact ⟨0, fun _ => 0, rfl, Nat.zero_le _, CS⟩
  case round =>
    clear CS
    obtain ⟨k, G, rfl, hk, hcs⟩ := hrel
    by_cases hlt : k < n
    · obtain ⟨zs, hzs⟩ := getM (rows := rows) (k := k) (by rw [HN.out]; exact hlt)
      have hzl := hz.out zs (List.mem_of_getElem? hzs)
      rcases hr.split with h0 | ⟨b, off, rfl, hb, hc⟩
      · exfalso; have := HN.out; omega
      obtain ⟨A', c', e1, rg⟩ := hc.out k zs hzs
      have RG := Lib.hid (rg.below (hcs.out.below))
      obtain ⟨q, hq⟩ : ∃ q, zs.length = q := ⟨_, rfl⟩
      have HQ := Lib.hid hq
      rw [hq] at e1 hzl
      have hcx := (hcs.out.below.cell (p := ⟨b, off + k, none⟩) hb).trans e1
      obtain ⟨v, hv⟩ := hcs.out.c k hlt
      have hfz := hcs.out.f k
      have hz0 := hcs.out.z
      have HZ := Lib.hid hzs
      have i1 : (k : Int) < (n : Int) := by omega
      have i2 : (0 : Int) ≤ (k : Int) := by omega
      clear hzs e1 rg hc hq
      go_wp2_with fail
      refine (laws_toInt64S_c _ _ _ zs _ HQ.out hzl RG.out).mono ?_
      rintro e w2 ⟨g, rfl, o2, b2⟩
      have CN := Lib.hid (hcs.out.step HZ.out hlt b2 o2)
      rw [HQ.out] at CN
      have hv2 := (b2.cell (p := ⟨g0, k, none⟩) hz0).trans hv
      have hfz2 := (b2.frozen (p := ⟨g0, k, none⟩) hz0).trans hfz
      clear hv hfz b2 o2 hcx
      go_wp2_with fail
      go_roundw
      case rel => exact ⟨k + 1, _, by go_num, by omega, CN⟩
      case measure => simp [intOf]; omega
    · obtain rfl : k = n := by omega
      have h1 := hcs.out
      go_wp2_with fail
      go_ret
      exact ⟨g0, rfl, ⟨by omega, h1.z, h1.z, G, fun j zs hj => h1.d j zs (by have := (List.getElem?_eq_some_iff.1 hj).1; have := HN.out; omega) hj, fun i j zs zs' hij hi hj => h1.i i j zs zs' hij (by have := (List.getElem?_eq_some_iff.1 hj).1; have := HN.out; omega) hi hj⟩, h1.below⟩
set_option maxRecDepth 100000 in
set_option maxHeartbeats 1000000 in
theorem laws_eqInt64SS_c (A B : Option Addr) (n m c d : Nat) (rows : List (List Int)) (w : World) (hn : rows.length = n) (hn' : rows.length = m) (hm : n ≤ 1048576) (hz : Hid (∀ g ∈ rows, g.length ≤ 1048576)) (hr : RM w A rows) (hr' : RM w B rows) :
    Calls Try.prog 51 #[.slice A n c, .slice B m d] w fun e w' => e = .returned (.bool true) ∧ Below w.heap.size w w' := by
  obtain rfl : n = m := by omega
  have HN := Lib.hid hn
  clear hn hn'
  go_enter Try.func51, Try.ntmps51
  go_wp2_with fail
  go_loopw [5] (fun i wr => ∃ k : Nat, i = .int .i64 k ∧ k ≤ n ∧ Hid (Below w.heap.size w wr)) (fun i _ => n - (intOf i).toNat)
  case atStart => exact ⟨0, rfl, Nat.zero_le _, Lib.hid (Below.refl _ _)⟩
  case round =>
    obtain ⟨k, rfl, hk, hbr⟩ := hrel
    by_cases hlt : k < n
    · obtain ⟨zs, hzs⟩ := getM (rows := rows) (k := k) (by rw [HN.out]; exact hlt)
      have hzl := hz.out zs (List.mem_of_getElem? hzs)
      rcases hr.split with h0 | ⟨b, off, rfl, hb, hc⟩
      · exfalso; have := HN.out; omega
      rcases hr'.split with h0 | ⟨b', off', rfl, hb', hc'⟩
      · exfalso; have := HN.out; omega
      obtain ⟨A1, c1, e1, rg1⟩ := hc.out k zs hzs
      obtain ⟨A2, c2, e2, rg2⟩ := hc'.out k zs hzs
      have RG1 := Lib.hid (rg1.below hbr.out)
      have RG2 := Lib.hid (rg2.below hbr.out)
      obtain ⟨q, hq⟩ : ∃ q, zs.length = q := ⟨_, rfl⟩
      have HQ := Lib.hid hq
      rw [hq] at e1 e2 hzl
      have hcx := (hbr.out.cell (p := ⟨b, off + k, none⟩) hb).trans e1
      have hcy := (hbr.out.cell (p := ⟨b', off' + k, none⟩) hb').trans e2
      have i1 : (k : Int) < (n : Int) := by omega
      have i2 : (0 : Int) ≤ (k : Int) := by omega
      clear hzs e1 e2 rg1 rg2 hc hc' hq
      go_wp2_with fail
      go_still_tail 8, (by kernel_rfl)
      change wpList _ _ _ _ _ (World.drew _)
      go_wp2_with fail
      refine (laws_eqInt64S_c _ _ _ _ _ _ zs _ HQ.out HQ.out hzl (show RI wr.drew A1 zs from RG1.out) (show RI wr.drew A2 zs from RG2.out)).mono ?_
      rintro e w3 ⟨rfl, b3⟩
      have B3 := Lib.hid (below_step hbr.out.drew b3 hbr.out.drew.size)
      clear b3 hcx hcy
      go_wp2_with fail
      go_roundw
      case rel => exact ⟨k + 1, by go_num, by omega, B3⟩
      case measure => simp [intOf]; omega
    · go_wp2_with fail
      go_ret
      exact ⟨rfl, hbr.out⟩
/-- The marks. -/
def MkM (s : Int) (lo hi : Nat) (w : World) (e : Ending) (w' : World) : Prop := ∃ v : Int, e = .returned (.int .i64 v) ∧ s ≤ v ∧ v ≤ s + 1048576 ∧ Kept lo hi w w'
set_option maxHeartbeats 1000000 in
theorem laws_markInt64SS_c (g0 n c : Nat) (rows : List (List Int)) (s : Int) (lo hi : Nat) (w : World) (hn : rows.length = n) (hm : n ≤ 1048576) (ht : totN rows ≤ 1048576) (hs0 : 0 ≤ s) (hs1 : s ≤ 900000000) (ho : OM w lo hi g0 rows) :
    Calls Try.prog 53 #[.slice (some ⟨g0, 0, none⟩) n c, .int .i64 s] w (MkM s lo hi w) := by
  obtain ⟨p1, p2, p3, G, hG, hI⟩ := ho
  have HN := Lib.hid hn
  have HG := Lib.hid hG
  have HI := Lib.hid hI
  clear hn hG hI
  go_enter Try.func53, Try.ntmps53
  go_wp2_with fail
  go_loopw [1, 5] (fun t i wr => ∃ (k : Nat) (v : Int), t = .int .i64 v ∧ i = .int .i64 k ∧ k ≤ n ∧ Hid (v = s + totN (rows.take k)) ∧ s ≤ v ∧ v ≤ s + 1048576 ∧ Hid (Kept lo hi w wr) ∧ Hid (∀ (j : Nat) (zs : List Int), rows[j]? = some zs → wr.cell? ⟨g0, j, none⟩ = some (.slice (some ⟨G j, 0, none⟩) zs.length zs.length)) ∧ Hid (∀ (j : Nat) (zs : List Int), k ≤ j → rows[j]? = some zs → OI wr (G j) (G j + 1) (some ⟨G j, 0, none⟩) zs)) (fun _ i _ => n - (intOf i).toNat)
  case atStart => exact ⟨0, s, rfl, rfl, Nat.zero_le _, Lib.hid (by simp [totN]), Int.le_refl _, by omega, Lib.hid (Kept.refl _ _ _), Lib.hid (fun j zs hj => (HG.out j zs hj).1), Lib.hid (fun j zs _ hj => (HG.out j zs hj).2.1)⟩
  case round =>
    obtain ⟨k, v, rfl, rfl, hk, hv, v0, v1, hkp, hce, hoi⟩ := hrel
    by_cases hlt : k < n
    · obtain ⟨zs, hzs⟩ := getM (rows := rows) (k := k) (by rw [HN.out]; exact hlt)
      have hcx := hce.out k zs hzs
      have O1 := Lib.hid (hoi.out k zs (Nat.le_refl _) hzs)
      have hzl := totN_mem (List.mem_of_getElem? hzs)
      have HS := Lib.hid (totN_step hzs)
      have hst := totN_take rows (k + 1)
      obtain ⟨q, hq⟩ : ∃ q, zs.length = q := ⟨_, rfl⟩
      have HQ := Lib.hid hq
      rw [hq] at hcx hzl HS
      have hv2 : v + (q : Int) ≤ s + 1048576 := by have := HS.out; have := hv.out; omega
      have i1 : (k : Int) < (n : Int) := by omega
      have i2 : (0 : Int) ≤ (k : Int) := by omega
      have HZ := Lib.hid hzs
      clear hzs hq hst
      go_wp2_with fail
      by_cases hne : zs = []
      · have O0 := Lib.hid (show OI wr 0 0 (some ⟨G k, 0, none⟩) zs from .inl hne)
        refine (laws_markInt64S_c (some ⟨G k, 0, none⟩) q q zs v 0 0 _ HQ.out (by omega) (by omega) (by omega) O0.out).mono ?_
        rintro e w2 ⟨rfl, o2, k2⟩
        have K2 := Lib.hid (hkp.out.trans (Kept.of_below k2.below_all lo hi))
        have C2 := Lib.hid (show ∀ (j : Nat) (ys : List Int), rows[j]? = some ys → w2.cell? ⟨g0, j, none⟩ = some (.slice (some ⟨G j, 0, none⟩) ys.length ys.length) from fun j ys hj => (World.cell?_of_block (a := ⟨g0, j, none⟩) (k2.block g0 (Nat.lt_of_lt_of_le p3 hkp.out.size) (by omega))).trans (hce.out j ys hj))
        have I2 := Lib.hid (show ∀ (j : Nat) (ys : List Int), k + 1 ≤ j → rows[j]? = some ys → OI w2 (G j) (G j + 1) (some ⟨G j, 0, none⟩) ys from fun j ys hj hr => (hoi.out j ys (by omega) hr).below k2.below_all)
        clear k2 o2 hcx hce hoi hne
        go_wp2_with fail
        go_roundw
        case rel => exact ⟨k + 1, v + q, rfl, by go_num, by omega, Lib.hid (by rw [HS.out, hv.out]; push_cast; omega), by omega, by omega, K2, C2, I2⟩
        case measure => simp [intOf]; omega
      · refine (laws_markInt64S_c (some ⟨G k, 0, none⟩) q q zs v (G k) (G k + 1) _ HQ.out (by omega) (by omega) (by omega) O1.out).mono ?_
        rintro e w2 ⟨rfl, o2, k2⟩
        obtain ⟨b1, b2⟩ := (HG.out k zs HZ.out).2.2 hne
        have K2 := Lib.hid (hkp.out.trans (k2.widen (lo' := lo) (hi' := hi) (by omega) (by omega)))
        have C2 := Lib.hid (show ∀ (j : Nat) (ys : List Int), rows[j]? = some ys → w2.cell? ⟨g0, j, none⟩ = some (.slice (some ⟨G j, 0, none⟩) ys.length ys.length) from fun j ys hj => (World.cell?_of_block (a := ⟨g0, j, none⟩) (k2.block g0 (Nat.lt_of_lt_of_le p3 hkp.out.size) (by omega))).trans (hce.out j ys hj))
        have I2 := Lib.hid (show ∀ (j : Nat) (ys : List Int), k + 1 ≤ j → rows[j]? = some ys → OI w2 (G j) (G j + 1) (some ⟨G j, 0, none⟩) ys from fun j ys hj hr => by
          by_cases hy : ys = []
          · exact .inl hy
          · have := HI.out k j zs ys (by omega) HZ.out hr hne hy
            exact (hoi.out j ys (by omega) hr).kept k2 (by omega))
        clear k2 o2 hcx hce hoi
        go_wp2_with fail
        go_roundw
        case rel => exact ⟨k + 1, v + q, rfl, by go_num, by omega, Lib.hid (by rw [HS.out, hv.out]; push_cast; omega), by omega, by omega, K2, C2, I2⟩
        case measure => simp [intOf]; omega
    · go_wp2_with fail
      go_ret
      exact ⟨v, rfl, v0, v1, hkp.out⟩
end Go.Proofs.Ythpgkngkmmameaa
