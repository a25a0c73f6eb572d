/-
  The eliminations that the reference draws for chapter 31. Conditions: none but the source's.
-/
import Derived.Test.YthpgkngkmmameaaPick
import Derived.Test.YthpgkngkmmameaaMat
import Derived.Test.YthpgkngkmmameaaLawEv
namespace Go.Proofs.Ythpgkngkmmameaa
open Go.RowKit
set_option linter.unusedVariables false
theorem OI.belowC {w w' : World} {lo hi base : Nat} {A : Option Addr} {zs : List Int} (h : OI w lo hi A zs) (hb : Below base w w') (hh : hi ≤ base) : OI w' lo hi A zs := by
  rcases h with h | ⟨b, off, e, l1, l2, h2, h3, h4⟩
  · exact .inl h
  · have hk : w'.heap[b]? = w.heap[b]? := hb.block b (by omega)
    exact .inr ⟨b, off, e, l1, l2, Nat.lt_of_lt_of_le h2 hb.size, fun j x hx => (World.cell?_of_block (a := ⟨b, off + j, none⟩) hk).trans (h3 j x hx), fun j => (World.frozen?_of_block (a := ⟨b, j, none⟩) hk).trans (h4 j)⟩
theorem OI.cut {w : World} {lo hi b off : Nat} {zs : List Int} (h : OI w lo hi (some ⟨b, off, none⟩) zs) (k : Nat) : OI w lo hi (some ⟨b, off, none⟩) (zs.take k) ∧ OI w lo hi (some ⟨b, off + k, none⟩) (zs.drop k) := by
  rcases h with h | ⟨b', off', e, l1, l2, h2, h3, h4⟩
  · subst h; exact ⟨.inl (by simp), .inl (by simp)⟩
  · injection e with e; injection e with e1 e2; subst e1 e2
    refine ⟨.inr ⟨b, off, rfl, l1, l2, h2, fun j x hx => h3 j x ?_, h4⟩, .inr ⟨b, off + k, rfl, l1, l2, h2, fun j x hx => ?_, h4⟩⟩
    · rw [List.getElem?_take] at hx
      split at hx
      · exact hx
      · cases hx
    · rw [List.getElem?_drop] at hx
      rw [Nat.add_assoc]
      exact h3 (k + j) x hx
/-- A row of slices that the call owns, each of which reads. -/
def RowM (w : World) (lo hi base : Nat) (A : Option Addr) (n c : Nat) (es : List (Value × List Int)) : Prop :=
  w.ownsRow base 22 1 (.slice A n c) n (es.map Prod.fst) ∧ ∀ e ∈ es, ∃ (A' : Option Addr) (c' : Nat), e.1 = .slice A' e.2.length c' ∧ e.2.length ≤ 100 ∧ OI w lo hi A' e.2
theorem RowM.length {w : World} {lo hi base : Nat} {A : Option Addr} {n c : Nat} {es : List (Value × List Int)} (h : RowM w lo hi base A n c es) : es.length = n := by simpa using h.1.1
theorem RowM.step {w w' : World} {lo hi base : Nat} {A : Option Addr} {n c : Nat} {es : List (Value × List Int)} (h : RowM w lo hi base A n c es) (hb : Below w.heap.size w w') : RowM w' lo hi base A n c es := by
  refine ⟨World.ownsRow.kept (row := none) h.1 ⟨hb.os, hb.tape, hb.output, hb.size, fun k hk _ => hb.block k hk⟩ (by cases hv : (Value.slice A n c).ownBlock <;> simp), fun e he => ?_⟩
  obtain ⟨A', c', e1, e2, e3⟩ := h.2 e he
  exact ⟨A', c', e1, e2, e3.below hb⟩
theorem RowM.kept {w w' : World} {lo hi base g : Nat} {A : Option Addr} {n c : Nat} {es : List (Value × List Int)} (h : RowM w lo hi base A n c es) (hk : Kept g (g + 1) w w') (hg : g < lo) (hl : lo ≤ base) : RowM w' lo hi base A n c es := by
  refine ⟨World.ownsRow.kept (row := some g) h.1 ⟨hk.os, hk.tape, hk.output, hk.size, fun k hk1 hne => hk.block k hk1 (fun ⟨a, b⟩ => hne (by congr 1; omega))⟩ ?_, fun e he => ?_⟩
  · cases hv : (Value.slice A n c).ownBlock with
    | none => exact .inl rfl
    | some k =>
      have := (World.ownsRow.lt h.1 k hv).1
      exact .inr (by intro e; injection e with e; omega)
  · obtain ⟨A', c', e1, e2, e3⟩ := h.2 e he
    exact ⟨A', c', e1, e2, e3.kept hk (.inl (by omega))⟩
theorem RowM.rm {w : World} {lo hi base : Nat} {A : Option Addr} {n c : Nat} {es : List (Value × List Int)} (h : w.ownsRow base 22 1 (.slice A n c) n (es.map Prod.fst)) (h2 : ∀ e ∈ es, ∃ (A' : Option Addr) (c' : Nat), e.1 = .slice A' e.2.length c' ∧ RI w A' e.2) : RM w A (es.map Prod.snd) := by
  rcases h.2 with ⟨hv, h0⟩ | ⟨g, cap, cur, hv, hb, hg, h3, h4, h5, h6⟩
  · left
    have := h.1
    rw [h0] at this
    simp at this
    simp [this]
  · injection hv with hA _ _
    subst hA
    refine .inr ⟨g, 0, rfl, (Array.getElem?_eq_some_iff.1 hg).1, fun j zs hj => ?_⟩
    rw [List.getElem?_map] at hj
    cases he : es[j]? with
    | none => rw [he] at hj; cases hj
    | some e =>
      rw [he] at hj
      injection hj with hj
      subst hj
      obtain ⟨A', c', e1, e2⟩ := h2 e (List.mem_of_getElem? he)
      have hjl : j < n := by
        have := (List.getElem?_eq_some_iff.1 he).1
        have := h.1
        simp at this
        omega
      have hh := World.ownsRow.cells h (g := g) rfl j e.1 (by simp [he])
      rw [Addr.add_lit, Nat.zero_add] at hh
      exact ⟨A', c', by rw [Nat.zero_add, hh, e1], e2⟩
theorem info_rowsD : (Try.prog.info? 22).map (fun i => (i.zero, i.size, i.bytes)) = some (some (.slice none 0 0), 1, 24) := by kernel_rfl
theorem wpList_appendV {w : World} {ops : Array Oper} {rest : List Oper} {o : Oper} {a : Act} {Q : Exit → Act → World → Prop} (hgd : o.guard = none) (s x : Operand)
    (ho : o.op = .call { callee := .builtin .append, args := #[s, x], argTypes := #[54, 54] })
    (base : Nat) (A : Option Addr) (n c : Nat) (vs : List Value) (hs : a.eval s = .slice A n c) (hown : w.ownsRow base 22 1 (.slice A n c) n vs)
    (g cx : Nat) (A' : Option Addr) (n' c' : Nat) (hx : a.eval x = .slice (some ⟨g, 0, none⟩) 1 cx) (hy : w.cell? ⟨g, 0, none⟩ = some (.slice A' n' c')) (hlen : n ≤ 10000) (hbase : base ≤ w.heap.size)
    (h : ∀ (g' c2 : Nat) (w' : World), w'.ownsRow base 22 1 (.slice (some ⟨g', 0, none⟩) (n + 1) c2) (n + 1) (vs ++ [.slice A' n' c']) → Below base w w' → w.grownBy w' (Value.slice A n c).ownBlock → wpList Try.prog ops Q rest (a.put o.dst (.slice (some ⟨g', 0, none⟩) (n + 1) c2)) w') :
    wpList Try.prog ops Q (o :: rest) a w := by
  obtain ⟨i0, hi, hz0, hz1, hz2⟩ := info_parts info_rowsD
  refine wpList_append_own (P := Try.prog) w hgd s x 54 ho base 22 i0 (.slice none 0 0) 1 24 Try.underlying54 hi hz0 hz1 hz2 rfl (by decide) (.slice A n c) n _ hs hown ⟨g, 0, none⟩ 1 cx [.slice A' n' c'] hx rfl ?_ ?_ (by unfold maxLen; omega) (by omega) hbase ?_
  · intro j u hu
    cases j with
    | zero => simp at hu; subst hu; rw [Addr.add_lit]; exact hy
    | succ j => simp at hu
  · intro u hu
    simp at hu
    subst hu
    rfl
  · intro v' w' hown' hg _
    obtain ⟨g', c2, rfl⟩ : ∃ g' c2, v' = .slice (some ⟨g', 0, none⟩) (n + 1) c2 := by
      rcases hown'.2 with ⟨_, h0⟩ | ⟨g', c2, cur, hv, _⟩
      · omega
      · exact ⟨g', c2, hv⟩
    exact h g' c2 w' (by simpa using hown') ((Below.refl _ _).grown hg hbase (fun k hk => (World.ownsRow.lt hown k hk).1)) hg
theorem spec_l27Numbers_i (x : Int) (w : World) (h0 : 0 ≤ x) (h1 : x ≤ 1000) :
    Calls Try.prog 167 #[.int .i64 x] w fun e w' => ∃ (n g c : Nat) (zs : List Int), e = .returned (.slice (some ⟨g, 0, none⟩) n c) ∧ x = n ∧ Row w' w.heap.size (some ⟨g, 0, none⟩) n c zs ∧ Below w.heap.size w w' := by
  obtain ⟨n, rfl⟩ : ∃ n : Nat, x = n := ⟨x.toNat, by omega⟩
  refine (spec_l27Numbers_c n w (by omega)).mono ?_
  rintro e w' ⟨g, c, zs, rfl, hr, hb⟩
  exact ⟨n, g, c, zs, rfl, rfl, hr, hb⟩
def slLen : Value → Nat
  | .slice _ n _ => n
  | _ => 0
/-- Rows that lie at lo or above. -/
def RMO (w : World) (lo : Nat) (A : Option Addr) (rows : List (List Int)) : Prop :=
  rows = [] ∨ ∃ b off, A = some ⟨b, off, none⟩ ∧ lo ≤ b ∧ b < w.heap.size ∧ ∀ (j : Nat) (zs : List Int), rows[j]? = some zs → ∃ (A' : Option Addr) (c' : Nat), w.cell? ⟨b, off + j, none⟩ = some (.slice A' zs.length c') ∧ OI w lo w.heap.size A' zs
theorem RMO.rm {w : World} {lo : Nat} {A : Option Addr} {rows : List (List Int)} (h : RMO w lo A rows) : RM w A rows := by
  rcases h with h | ⟨b, off, h1, -, h2, h3⟩
  · exact .inl h
  · refine .inr ⟨b, off, h1, h2, fun j zs hj => ?_⟩
    obtain ⟨A', c', e1, e2⟩ := h3 j zs hj
    exact ⟨A', c', e1, e2.ri⟩
theorem RMO.kept {w w' : World} {lo l h' : Nat} {A : Option Addr} {rows : List (List Int)} (h : RMO w lo A rows) (hk : Kept l h' w w') (hd : h' ≤ lo) : RMO w' lo A rows := by
  rcases h with h | ⟨b, off, h1, h4, h2, h3⟩
  · exact .inl h
  · refine .inr ⟨b, off, h1, h4, Nat.lt_of_lt_of_le h2 hk.size, fun j zs hj => ?_⟩
    obtain ⟨A', c', e1, e2⟩ := h3 j zs hj
    exact ⟨A', c', (World.cell?_of_block (a := ⟨b, off + j, none⟩) (hk.block b h2 (by omega))).trans e1, (e2.kept hk (.inl hd)).widen (Nat.le_refl _) hk.size⟩
theorem RowM.rmo {w : World} {lo base : Nat} {A : Option Addr} {n c : Nat} {es : List (Value × List Int)} (h : w.ownsRow base 22 1 (.slice A n c) n (es.map Prod.fst)) (hlo : lo ≤ base) (h2 : ∀ e ∈ es, ∃ (A' : Option Addr) (c' : Nat), e.1 = .slice A' e.2.length c' ∧ OI w lo w.heap.size A' e.2) : RMO w lo A (es.map Prod.snd) := by
  rcases h.2 with ⟨hv, h0⟩ | ⟨g, cap, cur, hv, hb, hg, h3, h4, h5, h6⟩
  · left
    have := h.1
    rw [h0] at this
    simp at this
    simp [this]
  · injection hv with hA _ _
    subst hA
    refine .inr ⟨g, 0, rfl, by omega, (Array.getElem?_eq_some_iff.1 hg).1, fun j zs hj => ?_⟩
    rw [List.getElem?_map] at hj
    cases he : es[j]? with
    | none => rw [he] at hj; cases hj
    | some e =>
      rw [he] at hj
      injection hj with hj
      subst hj
      obtain ⟨A', c', e1, e2⟩ := h2 e (List.mem_of_getElem? he)
      have hh := World.ownsRow.cells h (g := g) rfl j e.1 (by simp [he])
      rw [Addr.add_lit, Nat.zero_add] at hh
      exact ⟨A', c', by rw [Nat.zero_add, hh, e1], e2⟩
/-- Eliminations that are drawn. -/
def DO (w : World) (lo g : Nat) (e : Ending) (w' : World) : Prop := ∃ (A : Option Addr) (n c : Nat) (rows : List (List Int)), e = .returned (.slice A n c) ∧ Hid (rows.length = n) ∧ n ≤ 1000 ∧ Hid (∀ g ∈ rows, g.length ≤ 1000) ∧ RMO w' w.heap.size A rows ∧ Src w' lo g ∧ Kept g (g + 1) w w'
theorem DO.mk {w w' : World} {lo g n c l hi base : Nat} {A : Option Addr} {es : List (Value × List Int)} (hbw : w.heap.size ≤ base) (h1 : w'.ownsRow base 22 1 (.slice A n c) n (es.map Prod.fst)) (h2 : n ≤ 1000) (h3 : ∀ e ∈ es, ∃ (A' : Option Addr) (c' : Nat), e.1 = .slice A' e.2.length c' ∧ e.2.length ≤ 100 ∧ OI w' w.heap.size w'.heap.size A' e.2) (h4 : Src w' lo g) (h5 : Kept g (g + 1) w w') : DO w lo g (.returned (.slice A n c)) w' := by
  refine ⟨A, n, c, es.map Prod.snd, rfl, Lib.hid (by have := h1.1; simpa using this), h2, Lib.hid fun z hz => ?_, RowM.rmo h1 hbw (fun e he => ?_), h4, h5⟩
  · obtain ⟨e, he, rfl⟩ := List.mem_map.1 hz
    obtain ⟨A', c', -, e2, -⟩ := h3 e he
    omega
  · obtain ⟨A', c', e1, -, e3⟩ := h3 e he
    exact ⟨A', c', e1, e3⟩
theorem OI.topC {w : World} {lo hi lo' : Nat} {A : Option Addr} {zs : List Int} (h : OI w lo hi A zs) (hl : lo' ≤ lo) : OI w lo' w.heap.size A zs := by
  rcases h with h | ⟨b, off, e, l1, l2, h2, r⟩
  · exact .inl h
  · exact .inr ⟨b, off, e, by omega, h2, h2, r⟩
theorem last_mem {α : Type} {l : List α} {x e : α} (h : e ∈ l ++ [x]) : e ∈ l ∨ e = x := by
  rcases List.mem_append.1 h with h | h
  · exact .inl h
  · exact .inr (by simpa using h)
set_option maxRecDepth 100000 in
set_option maxHeartbeats 8000000 in
theorem spec_l31DrawOut_c (w : World) (lo g : Nat) (N B F G : Int) (A : Option Addr) (n c : Nat) (hs : Src w lo g) :
    Calls Try.prog 119 #[.pointer (some ⟨g, 0, none⟩), .agg #[.int .i64 N, .int .i64 B, .int .i64 F, .int .i64 G, .slice A n c]] w (DO w lo g) := by
  have hgs := hs.lt.2
  have HS0 := Lib.hid (hs.alloc (.cells #[.int .i64 N, .int .i64 B, .int .i64 F, .int .i64 G, .slice A n c] 58))
  have HK0 := Lib.hid ((Kept.refl g (g + 1) w).alloc (.cells #[.int .i64 N, .int .i64 B, .int .i64 F, .int .i64 G, .slice A n c] 58))
  obtain ⟨c0, c1, c2, c3, c4⟩ := (E5.new 58 w N B F G A n c).cells
  go_enter Try.func119, Try.ntmps119
  go_wp2_with fail
  all_goals (
    refine (spec_l27Numbers_i _ _ (by omega) (by omega)).mono ?_
    rintro e w1 ⟨m, q1, cq1, ys, rfl, hmx, hr1, b1⟩
    have hm60 : m ≤ 60 := by omega
    have HS1 := Lib.hid (HS0.out.below b1)
    have HK1 := Lib.hid (HK0.out.trans (Kept.of_below b1 g (g + 1)))
    have HR1 := Lib.hid hr1.oi.ri
    have HY1 := Lib.hid hr1.length
    have hq1 : g < q1 := by
      have := (World.ownsRow.lt hr1 q1 rfl).1
      simp at this
      omega
    clear b1 hr1 hmx c0 c1 c2 c3 c4
    go_wp2_with fail
    refine (spec_l02Pick_c _ lo g _ _ _ ys HS1.out HY1.out (by omega) HR1.out (fun a ha => by injection ha with ha; subst ha; show ¬ q1 = g; omega)).mono ?_
    rintro e w2 ⟨A1, n1, c1, zs, rfl, hzl, hn1, hn2, hcap, ho, hs2, hk2⟩
    have HS2 := Lib.hid hs2
    have HK2 := Lib.hid (HK1.out.trans hk2)
    have HO2 := Lib.hid ho
    have hw12 := hk2.size
    have hgw1 : g < w1.heap.size := HS1.out.lt.2
    have HK1s := HK1.out.size
    clear hs2 hk2 ho HR1 HY1 HS1 HS0 HK0
    obtain ⟨base, hbase⟩ : ∃ base, w2.heap.size = base := ⟨_, rfl⟩
    obtain ⟨b1, hb1⟩ : ∃ b1, w1.heap.size = b1 := ⟨_, rfl⟩
    rw [hbase, hb1] at HO2
    have hgb : g < b1 := by omega
    have hbb : b1 ≤ base := by omega
    have hgbase : g < base := by omega
    have hwb : w.heap.size ≤ base := by omega
    have hwb1 : w.heap.size ≤ b1 := by omega
    have HRM0 := Lib.hid (show RowM (w2.alloc (.cells #[] 22)) b1 base base (some ⟨w2.heap.size, 0, none⟩) 0 0 [] from ⟨World.ownsRow_made w2 #[] 0 (by omega) (Nat.zero_le _) rfl, fun e he => by cases he⟩)
    rw [hbase] at HRM0
    have HS3 := Lib.hid (HS2.out.alloc (.cells #[] 22))
    have HK3 := Lib.hid (HK2.out.alloc (.cells #[] 22))
    have HO3 := Lib.hid (HO2.out.below (below_box w2 (.cells #[] 22)))
    have hz3 : base ≤ (w2.alloc (.cells #[] 22)).heap.size := by simp; omega
    clear HS2 HK2 HO2
    go_wp2_with fail
    go_loopw [5, 6] (fun o s wr => ∃ (A' : Option Addr) (n' c' : Nat) (zs' : List Int) (Ao : Option Addr) (no co : Nat) (es : List (Value × List Int)), o = .slice A' n' c' ∧ s = .slice Ao no co ∧ Hid (zs'.length = n') ∧ n' ≤ c' ∧ no + n' ≤ 60 ∧ Hid (OI wr b1 base A' zs') ∧ Hid (RowM wr b1 base base Ao no co es) ∧ Hid (Src wr lo g) ∧ Hid (Kept g (g + 1) w wr) ∧ base ≤ wr.heap.size) (fun o _ _ => slLen o)
    case atStart => exact ⟨_, _, _, zs, _, 0, 0, [], rfl, rfl, hzl, hcap, by omega, HO3, HRM0, HS3, HK3, hz3⟩
    case round =>
      clear HO3 HRM0 HS3 HK3 hz3 hzl hcap
      obtain ⟨A', n', c', zs', Ao, no, co, es, rfl, rfl, HZL, hnc, hsum, HOO, HRM, HSR, HKP, hbz⟩ := hrel
      by_cases hlt : 1 < n'
      · have i1 : (1 : Int) < (n' : Int) := by omega
        have hnw := IntWalk.i64_in ((n' : Int) - 1) (by omega)
        go_wp2_with fail
        refine (spec_l01Pick_c _ lo g _ _ _ [1, 1, 1, 2, 3] (HSR.out.alloc _) rfl (by simp) (by simp) (RI.lit _ _ _ rfl) (fun b off e => by injection e with e; injection e with e1 _; have := HSR.out.lt; omega)).mono ?_
        rintro e w4 ⟨r4, rfl, m4, hs4, hk4⟩
        have b4 : 1 ≤ r4 ∧ r4 ≤ 3 := by simp at m4; omega
        obtain ⟨b40, b41⟩ := b4
        have HS4 := Lib.hid hs4
        have HK4 := Lib.hid ((HKP.out.alloc (.cells #[.int .i64 1, .int .i64 1, .int .i64 1, .int .i64 2, .int .i64 3] 2)).trans hk4)
        have HO4 := Lib.hid ((HOO.out.below (below_box wr (.cells #[.int .i64 1, .int .i64 1, .int .i64 1, .int .i64 2, .int .i64 3] 2))).kept hk4 (.inl (by omega)))
        have HM4 := Lib.hid ((HRM.out.step (below_box wr (.cells #[.int .i64 1, .int .i64 1, .int .i64 1, .int .i64 2, .int .i64 3] 2))).kept hk4 hgb hbb)
        have hz4 : base ≤ w4.heap.size := by have := hk4.size; simp at this; omega
        clear hs4 hk4 m4 HOO HRM HSR HKP hbz hnw
        rcases HO4.out with hh | ⟨bo, oo, rfl, -, -, -, -⟩
        · exfalso; have := HZL.out; rw [hh] at this; simp at this; omega
        have HTL := Lib.hid (fun k (h : k ≤ n') => (show (zs'.take k).length = k by rw [List.length_take, HZL.out]; exact Nat.min_eq_left h))
        have HDL := Lib.hid (fun k => (show (zs'.drop k).length = n' - k by rw [List.length_drop, HZL.out]))
        by_cases hmin : r4 < (n' : Int) - 1
        · obtain ⟨kk, rfl⟩ : ∃ kk : Nat, r4 = (kk : Int) := ⟨r4.toNat, by omega⟩
          have hk1 : 1 ≤ kk := by omega
          have hk2 : kk < n' := by omega
          have k1 : (kk : Int) ≤ (c' : Int) := by omega
          have k2 : (0 : Int) ≤ (kk : Int) := by omega
          have k3 : (kk : Int) ≤ (n' : Int) := by omega
          have k4 : ¬ c' = kk := by omega
          have OT := Lib.hid (HO4.out.cut kk).1
          have OD := Lib.hid (HO4.out.cut kk).2
          have LT := Lib.hid (HTL.out kk (by omega))
          have LD := Lib.hid (HDL.out kk)
          have RV := Lib.hid (World.ownsRow.alloc HM4.out.1 (.cells #[.slice (some ⟨bo, oo, none⟩) kk c'] 22))
          go_wp2_with (at_builtin; refine wpList_appendV rfl _ _ rfl base Ao no co _ rfl RV.out w4.heap.size 1 (some ⟨bo, oo, none⟩) kk c' rfl (by simp) (by omega) (by simp; omega) ?_; intro g5 c5 w5 hr5 hb5 hg5; have R5 := Lib.hid hr5; have B5 := Lib.hid hb5; clear hr5 hb5 hg5)
          have BX : Below base w4 w5 := ((Below.refl base w4).alloc (by omega) _).trans B5.out
          have HM5 := Lib.hid (show RowM w5 b1 base base (some ⟨g5, 0, none⟩) (no + 1) c5 (es ++ [(.slice (some ⟨bo, oo, none⟩) kk c', zs'.take kk)]) from ⟨by simpa using R5.out, fun e he => by
            rcases last_mem he with he | rfl
            · obtain ⟨A2, c2, e1, e2, e3⟩ := HM4.out.2 e he
              exact ⟨A2, c2, e1, e2, e3.belowC BX (Nat.le_refl _)⟩
            · exact ⟨_, c', by show Value.slice _ kk c' = .slice _ (zs'.take kk).length c'; rw [LT.out], by show (zs'.take kk).length ≤ 100; rw [LT.out]; omega, OT.out.belowC BX (Nat.le_refl _)⟩⟩)
          have HO5 := Lib.hid (OD.out.belowC BX (Nat.le_refl _))
          have HS5 := Lib.hid (HS4.out.belowB BX (by omega))
          have HK5 := Lib.hid (HK4.out.belowBase (BX.mono (by omega)))
          have hz5 : base ≤ w5.heap.size := by have := B5.out.size; simp at this; omega
          clear HM4 HO4 HS4 HK4 OT OD R5 B5 RV HTL HDL
          refine (spec_l01Next_c _ lo g _ HS5.out (by omega)).mono ?_
          rintro e w6 ⟨r6, rfl, p6, q6, hs6, hk6⟩
          have HS6 := Lib.hid hs6
          have HK6 := Lib.hid (HK5.out.trans hk6)
          have HM6 := Lib.hid (HM5.out.kept hk6 hgb hbb)
          have HO6 := Lib.hid (HO5.out.kept hk6 (.inl (by omega)))
          have hz6 : base ≤ w6.heap.size := by have := hk6.size; omega
          clear hs6 hk6 q6 BX
          by_cases hbr : r6 = 0
          · go_wp2_with fail
            refine (spec_l01Next_c _ lo g _ HS6.out (by omega)).mono ?_
            rintro e w9 ⟨r9, rfl, p9, q9, hs9, hk9⟩
            have HS9 := Lib.hid hs9
            have HK9 := Lib.hid (HK6.out.trans hk9)
            have HM9 := Lib.hid (HM6.out.kept hk9 hgb hbb)
            have HO9 := Lib.hid (HO6.out.kept hk9 (.inl (by omega)))
            have hz9 := hk9.size
            clear hs9 hk9 q9
            by_cases t0 : r9 = 0
            · have RV := Lib.hid (World.ownsRow.alloc HM9.out.1 (.cells #[.slice (some ⟨bo, oo + kk, none⟩) (n' - kk) (c' - kk)] 22))
              go_wp2_with (at_builtin; refine wpList_appendV rfl _ _ rfl base (some ⟨g5, 0, none⟩) (no + 1) c5 _ rfl RV.out w9.heap.size 1 (some ⟨bo, oo + kk, none⟩) (n' - kk) (c' - kk) rfl (by simp) (by omega) (by simp; omega) ?_; intro g4 c4 w4 hr4 hb4 hg4; have R4 := Lib.hid hr4; have B4 := Lib.hid hb4; clear hr4 hb4 hg4)
              go_ret
              have BX : Below base w9 w4 := ((Below.refl base w9).alloc (by omega) _).trans B4.out
              refine DO.mk (es := (es ++ [(.slice (some ⟨bo, oo, none⟩) kk c', zs'.take kk)]) ++ [(.slice (some ⟨bo, oo + kk, none⟩) (n' - kk) (c' - kk), (zs'.drop kk))]) (l := 0) (hi := 0) hwb (by simpa using R4.out) (by omega) (fun e he => ?_) (HS9.out.belowB BX (by omega)) (HK9.out.belowBase (BX.mono (by omega)))
              rcases last_mem he with he | rfl
              · obtain ⟨A2, c2, e1, e2, e3⟩ := HM9.out.2 e he
                exact ⟨A2, c2, e1, e2, (e3.belowC BX (Nat.le_refl _)).topC hwb1⟩
              · exact ⟨(some ⟨bo, oo + kk, none⟩), (c' - kk), by rw [LD.out], by show (zs'.drop kk).length ≤ 100; rw [LD.out]; omega, (HO9.out.belowC BX (Nat.le_refl _)).topC hwb1⟩
            by_cases t1 : r9 = 1
            · have RV := Lib.hid (World.ownsRow.alloc (World.ownsRow.alloc HM9.out.1 (.cells #[.int .i64 0] 2)) (.cells #[.slice (some ⟨w9.heap.size, 0, none⟩) 1 1] 22))
              go_wp2_with (at_builtin; refine wpList_appendV rfl _ _ rfl base (some ⟨g5, 0, none⟩) (no + 1) c5 _ rfl RV.out (w9.heap.size + 1) 1 (some ⟨w9.heap.size, 0, none⟩) 1 1 rfl (by simp) (by omega) (by simp; omega) ?_; intro g4 c4 w4 hr4 hb4 hg4; have R4 := Lib.hid hr4; have B4 := Lib.hid hb4; have G4 := Lib.hid hg4; clear hr4 hb4 hg4)
              go_ret
              have BX : Below base w9 w4 := (((Below.refl base w9).alloc (by omega) _).alloc (by simp; omega) _).trans B4.out
              have HL : OI w4 w.heap.size w4.heap.size (some ⟨w9.heap.size, 0, none⟩) [0] := by
                have hne : ¬ (some w9.heap.size = (Value.slice (some ⟨g5, 0, none⟩) (no + 1) c5).ownBlock) := fun hh => by
                  have := (World.ownsRow.lt HM9.out.1 w9.heap.size hh.symm).2
                  omega
                have hc : ((w9.alloc (.cells #[.int .i64 0] 2)).alloc (.cells #[.slice (some ⟨w9.heap.size, 0, none⟩) 1 1] 22)).cell? ⟨w9.heap.size, 0, none⟩ = some (.int .i64 0) := by simp
                have hbk := G4.out.block _ (World.block_lt_of_cell? _ _ hc) hne
                have hk : w4.cell? ⟨w9.heap.size, 0, none⟩ = some (.int .i64 0) := (World.cell?_of_block (a := ⟨w9.heap.size, 0, none⟩) hbk).trans hc
                have hlt := World.block_lt_of_cell? w4 _ hk
                refine .inr ⟨w9.heap.size, 0, rfl, by omega, hlt, hlt, fun j x hx => ?_, fun j => ?_⟩
                · cases j with
                  | zero => simp at hx; subst hx; exact hk
                  | succ j => simp at hx
                · exact (World.frozen?_of_block (a := ⟨w9.heap.size, j, none⟩) hbk).trans (by simp)
              refine DO.mk (es := (es ++ [(.slice (some ⟨bo, oo, none⟩) kk c', zs'.take kk)]) ++ [(.slice (some ⟨w9.heap.size, 0, none⟩) 1 1, [0])]) (l := 0) (hi := 0) hwb (by simpa using R4.out) (by omega) (fun e he => ?_) (HS9.out.belowB BX (by omega)) (HK9.out.belowBase (BX.mono (by omega)))
              rcases last_mem he with he | rfl
              · obtain ⟨A2, c2, e1, e2, e3⟩ := HM9.out.2 e he
                exact ⟨A2, c2, e1, e2, (e3.belowC BX (Nat.le_refl _)).topC hwb1⟩
              · exact ⟨_, 1, rfl, by show ([0] : List Int).length ≤ 100; decide, HL⟩
            by_cases t2 : r9 = 2
            · have RV := Lib.hid (World.ownsRow.alloc HM9.out.1 (.cells #[.slice none 0 0] 22))
              go_wp2_with (at_builtin; refine wpList_appendV rfl _ _ rfl base (some ⟨g5, 0, none⟩) (no + 1) c5 _ rfl RV.out w9.heap.size 1 none 0 0 rfl (by simp) (by omega) (by simp; omega) ?_; intro g4 c4 w4 hr4 hb4 hg4; have R4 := Lib.hid hr4; have B4 := Lib.hid hb4; clear hr4 hb4 hg4)
              go_ret
              have BX : Below base w9 w4 := ((Below.refl base w9).alloc (by omega) _).trans B4.out
              refine DO.mk (es := (es ++ [(.slice (some ⟨bo, oo, none⟩) kk c', zs'.take kk)]) ++ [(.slice none 0 0, [])]) (l := 0) (hi := 0) hwb (by simpa using R4.out) (by omega) (fun e he => ?_) (HS9.out.belowB BX (by omega)) (HK9.out.belowBase (BX.mono (by omega)))
              rcases last_mem he with he | rfl
              · obtain ⟨A2, c2, e1, e2, e3⟩ := HM9.out.2 e he
                exact ⟨A2, c2, e1, e2, (e3.belowC BX (Nat.le_refl _)).topC hwb1⟩
              · exact ⟨none, 0, rfl, by show ([] : List Int).length ≤ 100; decide, .inl rfl⟩
            go_wp2_with fail
            go_ret
            exact DO.mk (es := (es ++ [(.slice (some ⟨bo, oo, none⟩) kk c', zs'.take kk)])) (l := 0) (hi := 0) hwb HM9.out.1 (by omega) (fun e he => by obtain ⟨A2, c2, e1, e2, e3⟩ := HM9.out.2 e he; exact ⟨A2, c2, e1, e2, e3.topC hwb1⟩) HS9.out HK9.out
          · go_wp2_with fail
            go_roundw
            case rel => exact ⟨_, _, _, zs'.drop kk, _, _, _, _, rfl, rfl, LD, by omega, by omega, HO6, HM6, HS6, HK6, hz6⟩
            case measure => simp [slLen]; omega
        · obtain ⟨kk, hkk⟩ : ∃ kk : Nat, (n' : Int) - 1 = (kk : Int) := ⟨n' - 1, by omega⟩
          have hnw := IntWalk.i64_in ((n' : Int) - 1) (by omega)
          have hk1 : 1 ≤ kk := by omega
          have hk2 : kk < n' := by omega
          have k1 : (kk : Int) ≤ (c' : Int) := by omega
          have k2 : (0 : Int) ≤ (kk : Int) := by omega
          have k3 : (kk : Int) ≤ (n' : Int) := by omega
          have k4 : ¬ c' = kk := by omega
          have OT := Lib.hid (HO4.out.cut kk).1
          have OD := Lib.hid (HO4.out.cut kk).2
          have LT := Lib.hid (HTL.out kk (by omega))
          have LD := Lib.hid (HDL.out kk)
          have RV := Lib.hid (World.ownsRow.alloc HM4.out.1 (.cells #[.slice (some ⟨bo, oo, none⟩) kk c'] 22))
          go_wp2_with (at_builtin; refine wpList_appendV rfl _ _ rfl base Ao no co _ rfl RV.out w4.heap.size 1 (some ⟨bo, oo, none⟩) kk c' rfl (by simp) (by omega) (by simp; omega) ?_; intro g5 c5 w5 hr5 hb5 hg5; have R5 := Lib.hid hr5; have B5 := Lib.hid hb5; clear hr5 hb5 hg5)
          have BX : Below base w4 w5 := ((Below.refl base w4).alloc (by omega) _).trans B5.out
          have HM5 := Lib.hid (show RowM w5 b1 base base (some ⟨g5, 0, none⟩) (no + 1) c5 (es ++ [(.slice (some ⟨bo, oo, none⟩) kk c', zs'.take kk)]) from ⟨by simpa using R5.out, fun e he => by
            rcases last_mem he with he | rfl
            · obtain ⟨A2, c2, e1, e2, e3⟩ := HM4.out.2 e he
              exact ⟨A2, c2, e1, e2, e3.belowC BX (Nat.le_refl _)⟩
            · exact ⟨_, c', by show Value.slice _ kk c' = .slice _ (zs'.take kk).length c'; rw [LT.out], by show (zs'.take kk).length ≤ 100; rw [LT.out]; omega, OT.out.belowC BX (Nat.le_refl _)⟩⟩)
          have HO5 := Lib.hid (OD.out.belowC BX (Nat.le_refl _))
          have HS5 := Lib.hid (HS4.out.belowB BX (by omega))
          have HK5 := Lib.hid (HK4.out.belowBase (BX.mono (by omega)))
          have hz5 : base ≤ w5.heap.size := by have := B5.out.size; simp at this; omega
          clear HM4 HO4 HS4 HK4 OT OD R5 B5 RV HTL HDL
          refine (spec_l01Next_c _ lo g _ HS5.out (by omega)).mono ?_
          rintro e w6 ⟨r6, rfl, p6, q6, hs6, hk6⟩
          have HS6 := Lib.hid hs6
          have HK6 := Lib.hid (HK5.out.trans hk6)
          have HM6 := Lib.hid (HM5.out.kept hk6 hgb hbb)
          have HO6 := Lib.hid (HO5.out.kept hk6 (.inl (by omega)))
          have hz6 : base ≤ w6.heap.size := by have := hk6.size; omega
          clear hs6 hk6 q6 BX
          by_cases hbr : r6 = 0
          · go_wp2_with fail
            refine (spec_l01Next_c _ lo g _ HS6.out (by omega)).mono ?_
            rintro e w9 ⟨r9, rfl, p9, q9, hs9, hk9⟩
            have HS9 := Lib.hid hs9
            have HK9 := Lib.hid (HK6.out.trans hk9)
            have HM9 := Lib.hid (HM6.out.kept hk9 hgb hbb)
            have HO9 := Lib.hid (HO6.out.kept hk9 (.inl (by omega)))
            have hz9 := hk9.size
            clear hs9 hk9 q9
            by_cases t0 : r9 = 0
            · have RV := Lib.hid (World.ownsRow.alloc HM9.out.1 (.cells #[.slice (some ⟨bo, oo + kk, none⟩) (n' - kk) (c' - kk)] 22))
              go_wp2_with (at_builtin; refine wpList_appendV rfl _ _ rfl base (some ⟨g5, 0, none⟩) (no + 1) c5 _ rfl RV.out w9.heap.size 1 (some ⟨bo, oo + kk, none⟩) (n' - kk) (c' - kk) rfl (by simp) (by omega) (by simp; omega) ?_; intro g4 c4 w4 hr4 hb4 hg4; have R4 := Lib.hid hr4; have B4 := Lib.hid hb4; clear hr4 hb4 hg4)
              go_ret
              have BX : Below base w9 w4 := ((Below.refl base w9).alloc (by omega) _).trans B4.out
              refine DO.mk (es := (es ++ [(.slice (some ⟨bo, oo, none⟩) kk c', zs'.take kk)]) ++ [(.slice (some ⟨bo, oo + kk, none⟩) (n' - kk) (c' - kk), (zs'.drop kk))]) (l := 0) (hi := 0) hwb (by simpa using R4.out) (by omega) (fun e he => ?_) (HS9.out.belowB BX (by omega)) (HK9.out.belowBase (BX.mono (by omega)))
              rcases last_mem he with he | rfl
              · obtain ⟨A2, c2, e1, e2, e3⟩ := HM9.out.2 e he
                exact ⟨A2, c2, e1, e2, (e3.belowC BX (Nat.le_refl _)).topC hwb1⟩
              · exact ⟨(some ⟨bo, oo + kk, none⟩), (c' - kk), by rw [LD.out], by show (zs'.drop kk).length ≤ 100; rw [LD.out]; omega, (HO9.out.belowC BX (Nat.le_refl _)).topC hwb1⟩
            by_cases t1 : r9 = 1
            · have RV := Lib.hid (World.ownsRow.alloc (World.ownsRow.alloc HM9.out.1 (.cells #[.int .i64 0] 2)) (.cells #[.slice (some ⟨w9.heap.size, 0, none⟩) 1 1] 22))
              go_wp2_with (at_builtin; refine wpList_appendV rfl _ _ rfl base (some ⟨g5, 0, none⟩) (no + 1) c5 _ rfl RV.out (w9.heap.size + 1) 1 (some ⟨w9.heap.size, 0, none⟩) 1 1 rfl (by simp) (by omega) (by simp; omega) ?_; intro g4 c4 w4 hr4 hb4 hg4; have R4 := Lib.hid hr4; have B4 := Lib.hid hb4; have G4 := Lib.hid hg4; clear hr4 hb4 hg4)
              go_ret
              have BX : Below base w9 w4 := (((Below.refl base w9).alloc (by omega) _).alloc (by simp; omega) _).trans B4.out
              have HL : OI w4 w.heap.size w4.heap.size (some ⟨w9.heap.size, 0, none⟩) [0] := by
                have hne : ¬ (some w9.heap.size = (Value.slice (some ⟨g5, 0, none⟩) (no + 1) c5).ownBlock) := fun hh => by
                  have := (World.ownsRow.lt HM9.out.1 w9.heap.size hh.symm).2
                  omega
                have hc : ((w9.alloc (.cells #[.int .i64 0] 2)).alloc (.cells #[.slice (some ⟨w9.heap.size, 0, none⟩) 1 1] 22)).cell? ⟨w9.heap.size, 0, none⟩ = some (.int .i64 0) := by simp
                have hbk := G4.out.block _ (World.block_lt_of_cell? _ _ hc) hne
                have hk : w4.cell? ⟨w9.heap.size, 0, none⟩ = some (.int .i64 0) := (World.cell?_of_block (a := ⟨w9.heap.size, 0, none⟩) hbk).trans hc
                have hlt := World.block_lt_of_cell? w4 _ hk
                refine .inr ⟨w9.heap.size, 0, rfl, by omega, hlt, hlt, fun j x hx => ?_, fun j => ?_⟩
                · cases j with
                  | zero => simp at hx; subst hx; exact hk
                  | succ j => simp at hx
                · exact (World.frozen?_of_block (a := ⟨w9.heap.size, j, none⟩) hbk).trans (by simp)
              refine DO.mk (es := (es ++ [(.slice (some ⟨bo, oo, none⟩) kk c', zs'.take kk)]) ++ [(.slice (some ⟨w9.heap.size, 0, none⟩) 1 1, [0])]) (l := 0) (hi := 0) hwb (by simpa using R4.out) (by omega) (fun e he => ?_) (HS9.out.belowB BX (by omega)) (HK9.out.belowBase (BX.mono (by omega)))
              rcases last_mem he with he | rfl
              · obtain ⟨A2, c2, e1, e2, e3⟩ := HM9.out.2 e he
                exact ⟨A2, c2, e1, e2, (e3.belowC BX (Nat.le_refl _)).topC hwb1⟩
              · exact ⟨_, 1, rfl, by show ([0] : List Int).length ≤ 100; decide, HL⟩
            by_cases t2 : r9 = 2
            · have RV := Lib.hid (World.ownsRow.alloc HM9.out.1 (.cells #[.slice none 0 0] 22))
              go_wp2_with (at_builtin; refine wpList_appendV rfl _ _ rfl base (some ⟨g5, 0, none⟩) (no + 1) c5 _ rfl RV.out w9.heap.size 1 none 0 0 rfl (by simp) (by omega) (by simp; omega) ?_; intro g4 c4 w4 hr4 hb4 hg4; have R4 := Lib.hid hr4; have B4 := Lib.hid hb4; clear hr4 hb4 hg4)
              go_ret
              have BX : Below base w9 w4 := ((Below.refl base w9).alloc (by omega) _).trans B4.out
              refine DO.mk (es := (es ++ [(.slice (some ⟨bo, oo, none⟩) kk c', zs'.take kk)]) ++ [(.slice none 0 0, [])]) (l := 0) (hi := 0) hwb (by simpa using R4.out) (by omega) (fun e he => ?_) (HS9.out.belowB BX (by omega)) (HK9.out.belowBase (BX.mono (by omega)))
              rcases last_mem he with he | rfl
              · obtain ⟨A2, c2, e1, e2, e3⟩ := HM9.out.2 e he
                exact ⟨A2, c2, e1, e2, (e3.belowC BX (Nat.le_refl _)).topC hwb1⟩
              · exact ⟨none, 0, rfl, by show ([] : List Int).length ≤ 100; decide, .inl rfl⟩
            go_wp2_with fail
            go_ret
            exact DO.mk (es := (es ++ [(.slice (some ⟨bo, oo, none⟩) kk c', zs'.take kk)])) (l := 0) (hi := 0) hwb HM9.out.1 (by omega) (fun e he => by obtain ⟨A2, c2, e1, e2, e3⟩ := HM9.out.2 e he; exact ⟨A2, c2, e1, e2, e3.topC hwb1⟩) HS9.out HK9.out
          · go_wp2_with fail
            go_roundw
            case rel => exact ⟨_, _, _, zs'.drop kk, _, _, _, _, rfl, rfl, LD, by omega, by omega, HO6, HM6, HS6, HK6, hz6⟩
            case measure => simp [slLen]; omega
      · have i1 : ¬ (1 : Int) < (n' : Int) := by omega
        go_wp2_with fail
        refine (spec_l01Next_c _ lo g _ HSR.out (by omega)).mono ?_
        rintro e w9 ⟨r9, rfl, p9, q9, hs9, hk9⟩
        have HS9 := Lib.hid hs9
        have HK9 := Lib.hid (HKP.out.trans hk9)
        have HM9 := Lib.hid (HRM.out.kept hk9 hgb hbb)
        have HO9 := Lib.hid (HOO.out.kept hk9 (.inl (by omega)))
        have hz9 := hk9.size
        clear hs9 hk9 q9
        by_cases t0 : r9 = 0
        · have RV := Lib.hid (World.ownsRow.alloc HM9.out.1 (.cells #[.slice A' n' c'] 22))
          go_wp2_with (at_builtin; refine wpList_appendV rfl _ _ rfl base Ao no co _ rfl RV.out w9.heap.size 1 A' n' c' rfl (by simp) (by omega) (by simp; omega) ?_; intro g4 c4 w4 hr4 hb4 hg4; have R4 := Lib.hid hr4; have B4 := Lib.hid hb4; clear hr4 hb4 hg4)
          go_ret
          have BX : Below base w9 w4 := ((Below.refl base w9).alloc (by omega) _).trans B4.out
          refine DO.mk (es := es ++ [(.slice A' n' c', zs')]) (l := 0) (hi := 0) hwb (by simpa using R4.out) (by omega) (fun e he => ?_) (HS9.out.belowB BX (by omega)) (HK9.out.belowBase (BX.mono (by omega)))
          rcases last_mem he with he | rfl
          · obtain ⟨A2, c2, e1, e2, e3⟩ := HM9.out.2 e he
            exact ⟨A2, c2, e1, e2, (e3.belowC BX (Nat.le_refl _)).topC hwb1⟩
          · exact ⟨A', c', by rw [HZL.out], by show zs'.length ≤ 100; rw [HZL.out]; omega, (HO9.out.belowC BX (Nat.le_refl _)).topC hwb1⟩
        by_cases t1 : r9 = 1
        · have RV := Lib.hid (World.ownsRow.alloc (World.ownsRow.alloc HM9.out.1 (.cells #[.int .i64 0] 2)) (.cells #[.slice (some ⟨w9.heap.size, 0, none⟩) 1 1] 22))
          go_wp2_with (at_builtin; refine wpList_appendV rfl _ _ rfl base Ao no co _ rfl RV.out (w9.heap.size + 1) 1 (some ⟨w9.heap.size, 0, none⟩) 1 1 rfl (by simp) (by omega) (by simp; omega) ?_; intro g4 c4 w4 hr4 hb4 hg4; have R4 := Lib.hid hr4; have B4 := Lib.hid hb4; have G4 := Lib.hid hg4; clear hr4 hb4 hg4)
          go_ret
          have BX : Below base w9 w4 := (((Below.refl base w9).alloc (by omega) _).alloc (by simp; omega) _).trans B4.out
          have HL : OI w4 w.heap.size w4.heap.size (some ⟨w9.heap.size, 0, none⟩) [0] := by
            have hne : ¬ (some w9.heap.size = (Value.slice Ao no co).ownBlock) := fun hh => by
              have := (World.ownsRow.lt HM9.out.1 w9.heap.size hh.symm).2
              omega
            have hc : ((w9.alloc (.cells #[.int .i64 0] 2)).alloc (.cells #[.slice (some ⟨w9.heap.size, 0, none⟩) 1 1] 22)).cell? ⟨w9.heap.size, 0, none⟩ = some (.int .i64 0) := by simp
            have hbk := G4.out.block _ (World.block_lt_of_cell? _ _ hc) hne
            have hk : w4.cell? ⟨w9.heap.size, 0, none⟩ = some (.int .i64 0) := (World.cell?_of_block (a := ⟨w9.heap.size, 0, none⟩) hbk).trans hc
            have hlt := World.block_lt_of_cell? w4 _ hk
            refine .inr ⟨w9.heap.size, 0, rfl, by omega, hlt, hlt, fun j x hx => ?_, fun j => ?_⟩
            · cases j with
              | zero => simp at hx; subst hx; exact hk
              | succ j => simp at hx
            · exact (World.frozen?_of_block (a := ⟨w9.heap.size, j, none⟩) hbk).trans (by simp)
          refine DO.mk (es := es ++ [(.slice (some ⟨w9.heap.size, 0, none⟩) 1 1, [0])]) (l := 0) (hi := 0) hwb (by simpa using R4.out) (by omega) (fun e he => ?_) (HS9.out.belowB BX (by omega)) (HK9.out.belowBase (BX.mono (by omega)))
          rcases last_mem he with he | rfl
          · obtain ⟨A2, c2, e1, e2, e3⟩ := HM9.out.2 e he
            exact ⟨A2, c2, e1, e2, (e3.belowC BX (Nat.le_refl _)).topC hwb1⟩
          · exact ⟨_, 1, rfl, by show ([0] : List Int).length ≤ 100; decide, HL⟩
        by_cases t2 : r9 = 2
        · have RV := Lib.hid (World.ownsRow.alloc HM9.out.1 (.cells #[.slice none 0 0] 22))
          go_wp2_with (at_builtin; refine wpList_appendV rfl _ _ rfl base Ao no co _ rfl RV.out w9.heap.size 1 none 0 0 rfl (by simp) (by omega) (by simp; omega) ?_; intro g4 c4 w4 hr4 hb4 hg4; have R4 := Lib.hid hr4; have B4 := Lib.hid hb4; clear hr4 hb4 hg4)
          go_ret
          have BX : Below base w9 w4 := ((Below.refl base w9).alloc (by omega) _).trans B4.out
          refine DO.mk (es := es ++ [(.slice none 0 0, [])]) (l := 0) (hi := 0) hwb (by simpa using R4.out) (by omega) (fun e he => ?_) (HS9.out.belowB BX (by omega)) (HK9.out.belowBase (BX.mono (by omega)))
          rcases last_mem he with he | rfl
          · obtain ⟨A2, c2, e1, e2, e3⟩ := HM9.out.2 e he
            exact ⟨A2, c2, e1, e2, (e3.belowC BX (Nat.le_refl _)).topC hwb1⟩
          · exact ⟨none, 0, rfl, by show ([] : List Int).length ≤ 100; decide, .inl rfl⟩
        go_wp2_with fail
        go_ret
        exact DO.mk (es := es) (l := 0) (hi := 0) hwb HM9.out.1 (by omega) (fun e he => by obtain ⟨A2, c2, e1, e2, e3⟩ := HM9.out.2 e he; exact ⟨A2, c2, e1, e2, e3.topC hwb1⟩) HS9.out HK9.out)
end Go.Proofs.Ythpgkngkmmameaa
