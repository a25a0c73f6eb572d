/-
  The reference's source of drawn numbers: l01From, l01Next. What is drawn lies in its range; only the source's own block is written. Conditions: a code of at most 1048576 bytes, ranges up to 4000000000.
-/
import Derived.Test.YthpgkngkmmameaaLaw
import Derived.BigRegion
namespace Go.Proofs.Ythpgkngkmmameaa
open Go.RowKit
set_option linter.unusedVariables false

/-- Bytes that are read: empty, or they lie at an address below block lo. -/
def BI (w : World) (lo : Nat) (A : Option Addr) (bs : List Int) : Prop :=
  bs = [] ∨ ∃ b off, A = some ⟨b, off, none⟩ ∧ b < lo ∧ b < w.heap.size ∧ ∀ (j : Nat) (x : Int), bs[j]? = some x → w.cell? ⟨b, off + j, none⟩ = some (.int .u8 x)
structure SrcAt (w : World) (lo g : Nat) (A : Option Addr) (n c : Nat) (bs : List Int) (at_ : Nat) (seed : Int) : Prop where
  c0 : w.cell? ⟨g, 0, none⟩ = some (.slice A n c)
  c1 : w.cell? ⟨g, 1, none⟩ = some (.int .i64 at_)
  c2 : w.cell? ⟨g, 2, none⟩ = some (.int .i64 seed)
  fz : ∀ j, w.frozen? ⟨g, j, none⟩ = false
  len : bs.length = n
  n1 : n ≤ 1048576
  bytes : BI w lo A bs
  range : ∀ x ∈ bs, 0 ≤ x ∧ x ≤ 255
  le : at_ ≤ n
  s0 : 0 ≤ seed
  s1 : seed < 2147483647
  lg : lo ≤ g
  gs : g < w.heap.size
/-- Block g is a source; the code that it reads lies below block lo. -/
def Src (w : World) (lo g : Nat) : Prop := ∃ A n c bs at_ seed, SrcAt w lo g A n c bs at_ seed
theorem BI.kept {w w' : World} {lo l h : Nat} {A : Option Addr} {bs : List Int} (hb : BI w lo A bs) (hk : Kept l h w w') (hl : lo ≤ l) : BI w' lo A bs := by
  rcases hb with hb | ⟨b, off, e, h1, h2, h3⟩
  · exact .inl hb
  · have hblk : w'.heap[b]? = w.heap[b]? := hk.block b h2 (by omega)
    exact .inr ⟨b, off, e, h1, Nat.lt_of_lt_of_le h2 hk.size, fun j x hx => (World.cell?_of_block (a := ⟨b, off + j, none⟩) hblk).trans (h3 j x hx)⟩
theorem Kept.setSelf {g j : Nat} {a b : World} (h : Kept g (g + 1) a b) (v : Value) : Kept g (g + 1) a (b.setCell ⟨g, j, none⟩ v) := h.setCell (.inl ⟨Nat.le_refl g, Nat.lt_add_one g⟩) v
section
variable {w w' : World} {lo g : Nat} {A : Option Addr} {n c : Nat} {bs : List Int} {at_ : Nat} {seed : Int}
theorem SrcAt.drewN (h : SrcAt w lo g A n c bs at_ seed) (k : Nat) : SrcAt (w.drewN k) lo g A n c bs at_ seed := ⟨h.c0, h.c1, h.c2, h.fz, h.len, h.n1, h.bytes, h.range, h.le, h.s0, h.s1, h.lg, h.gs⟩
theorem SrcAt.setSeed (h : SrcAt w lo g A n c bs at_ seed) (v : Int) (h0 : 0 ≤ v) (h1 : v < 2147483647) : SrcAt (w.setCell ⟨g, 2, none⟩ (.int .i64 v)) lo g A n c bs at_ v :=
  ⟨by rw [World.cell?_setCell_other _ _ _ _ (by intro e; cases e)]; exact h.c0, by rw [World.cell?_setCell_other _ _ _ _ (by intro e; cases e)]; exact h.c1, World.cell?_setCell_same w _ _ h.c2,
    fun j => by simpa using h.fz j, h.len, h.n1, h.bytes.kept ((Kept.refl g (g + 1) w).setSelf _) h.lg, h.range, h.le, h0, h1, h.lg, by simpa [World.setCell] using h.gs⟩
theorem SrcAt.setAt (h : SrcAt w lo g A n c bs at_ seed) (k : Nat) (hk : k ≤ n) : SrcAt (w.setCell ⟨g, 1, none⟩ (.int .i64 k)) lo g A n c bs k seed :=
  ⟨by rw [World.cell?_setCell_other _ _ _ _ (by intro e; cases e)]; exact h.c0, World.cell?_setCell_same w _ _ h.c1, by rw [World.cell?_setCell_other _ _ _ _ (by intro e; cases e)]; exact h.c2,
    fun j => by simpa using h.fz j, h.len, h.n1, h.bytes.kept ((Kept.refl g (g + 1) w).setSelf _) h.lg, h.range, hk, h.s0, h.s1, h.lg, by simpa [World.setCell] using h.gs⟩
theorem SrcAt.below (h : SrcAt w lo g A n c bs at_ seed) (hb : Below w.heap.size w w') : SrcAt w' lo g A n c bs at_ seed :=
  ⟨(hb.cell (p := ⟨g, 0, none⟩) h.gs).trans h.c0, (hb.cell (p := ⟨g, 1, none⟩) h.gs).trans h.c1, (hb.cell (p := ⟨g, 2, none⟩) h.gs).trans h.c2, fun j => (hb.frozen (p := ⟨g, j, none⟩) h.gs).trans (h.fz j), h.len, h.n1,
    by
      rcases h.bytes with hn | ⟨b, off, e, h1, h2, h3⟩
      · exact .inl hn
      · exact .inr ⟨b, off, e, h1, Nat.lt_of_lt_of_le h2 hb.size, fun j x hx => (hb.cell (p := ⟨b, off + j, none⟩) h2).trans (h3 j x hx)⟩,
    h.range, h.le, h.s0, h.s1, h.lg, Nat.lt_of_lt_of_le h.gs hb.size⟩
theorem SrcAt.keptOther {l h' : Nat} (h : SrcAt w lo g A n c bs at_ seed) (hk : Kept l h' w w') (hl : g < l) : SrcAt w' lo g A n c bs at_ seed := by
  have hblk : w'.heap[g]? = w.heap[g]? := hk.block g h.gs (by omega)
  exact ⟨(World.cell?_of_block (a := ⟨g, 0, none⟩) hblk).trans h.c0, (World.cell?_of_block (a := ⟨g, 1, none⟩) hblk).trans h.c1, (World.cell?_of_block (a := ⟨g, 2, none⟩) hblk).trans h.c2, fun j => (World.frozen?_of_block (a := ⟨g, j, none⟩) hblk).trans (h.fz j), h.len, h.n1,
    h.bytes.kept hk (by have := h.lg; omega), h.range, h.le, h.s0, h.s1, h.lg, Nat.lt_of_lt_of_le h.gs hk.size⟩
end
theorem Src.below {w w' : World} {lo g : Nat} (h : Src w lo g) (hb : Below w.heap.size w w') : Src w' lo g := by
  obtain ⟨A, n, c, bs, at_, seed, h⟩ := h; exact ⟨A, n, c, bs, at_, seed, h.below hb⟩
theorem Src.keptOther {w w' : World} {lo g l h' : Nat} (h : Src w lo g) (hk : Kept l h' w w') (hl : g < l) : Src w' lo g := by
  obtain ⟨A, n, c, bs, at_, seed, h⟩ := h; exact ⟨A, n, c, bs, at_, seed, h.keptOther hk hl⟩
theorem Src.lt {w : World} {lo g : Nat} (h : Src w lo g) : lo ≤ g ∧ g < w.heap.size := by
  obtain ⟨A, n, c, bs, at_, seed, h⟩ := h; exact ⟨h.lg, h.gs⟩
/-- What l01Next hands back. -/
def Drawn (w : World) (lo g : Nat) (m : Int) (e : Ending) (w' : World) : Prop := ∃ r : Int, e = .returned (.int .i64 r) ∧ 0 ≤ r ∧ (r < m ∨ r = 0) ∧ Src w' lo g ∧ Kept g (g + 1) w w'
theorem Drawn.mk {w w' : World} {lo g : Nat} {m r : Int} (h0 : 0 ≤ r) (h1 : r < m ∨ r = 0) (h2 : Src w' lo g) (h3 : Kept g (g + 1) w w') : Drawn w lo g m (.returned (.int .i64 r)) w' := ⟨r, rfl, h0, h1, h2, h3⟩

set_option maxHeartbeats 2000000 in
theorem spec_l01Next_c (w : World) (lo g : Nat) (m : Int) (hs : Src w lo g) (hm : m ≤ 4000000000) : Calls Try.prog 93 #[.pointer (some ⟨g, 0, none⟩), .int .i64 m] w (Drawn w lo g m) := by
  by_cases h1 : m ≤ 1
  · go_enter Try.func93, Try.ntmps93
    go_wp2_with fail
    go_ret
    exact Drawn.mk (Int.le_refl _) (.inr rfl) hs (Kept.refl _ _ _)
  obtain ⟨A, n, c, bs, at_, seed, h⟩ := hs
  have hle := h.le
  have hn1 := h.n1
  have s0 := h.s0
  have s1 := h.s1
  have g2 : 0 ≤ (at_ : Int) := by omega
  by_cases hat : at_ < n
  · have hbi := h.bytes
    obtain ⟨x, hx⟩ := get_some (zs := bs) (k := at_) (by rw [h.len]; exact hat)
    obtain ⟨hx0, hx1⟩ := h.range x (List.mem_of_getElem? hx)
    rcases hbi with hbi | ⟨b, off, rfl, hblo, hbs, hcell⟩
    · rw [hbi] at hx; simp at hx
    have hlg := h.lg
    have hne : ¬ b = g := by omega
    have hne' : ¬ g = b := by omega
    have hcx := hcell at_ x hx
    clear hcell hx
    have g1 : (at_ : Int) < (n : Int) := by omega
    have hcx' : ∀ v : Value, (w.setCell ⟨g, 2, none⟩ v).cell? ⟨b, off + at_, none⟩ = some (.int .u8 x) := fun v => by rw [World.cell?_setCell_other _ _ _ _ (by intro e; injection e with e1 _; exact hne' e1)]; exact hcx
    have HCX := Lib.hid hcx'
    clear hcx'
    have c0 := h.c0
    have c1 := h.c1
    have c2 := h.c2
    have f2 := h.fz 2
    have H := Lib.hid h
    clear h
    go_enter Try.func93, Try.ntmps93
    go_wp2_with fail
    have s2 : 0 ≤ (seed * 48271 + 29) % 2147483647 := by omega
    have s3 : (seed * 48271 + 29) % 2147483647 < 2147483647 := by omega
    have HW := Lib.hid (H.out.setSeed _ s2 s3)
    have HK : Kept g (g + 1) w (w.setCell ⟨g, 2, none⟩ (.int .i64 ((seed * 48271 + 29) % 2147483647))) := (Kept.refl _ _ _).setSelf _
    generalize (seed * 48271 + 29) % 2147483647 = seed' at *
    have dx := HCX.out (.int .i64 seed')
    generalize w.setCell ⟨g, 2, none⟩ (.int .i64 seed') = W at *
    have d0 := HW.out.c0
    have d1 := HW.out.c1
    have e1 := HW.out.fz 1
    clear c0 c1 c2 f2 H
    clear hcx HCX
    have hr1 : 0 ≤ x % m := Int.emod_nonneg _ (by omega)
    have hr2 : x % m < m := Int.emod_lt_of_pos _ (by omega)
    have hr3 : 0 ≤ (seed' / 31 + x) % m := Int.emod_nonneg _ (by omega)
    have hr4 : (seed' / 31 + x) % m < m := Int.emod_lt_of_pos _ (by omega)
    have hw1 := IntWalk.i64_in x (by omega)
    have hw2 := IntWalk.i64_in (seed' / 31 + x) (by omega)
    have hw3 := IntWalk.i64_in ((at_ : Int) + 1) (by omega)
    have hw4 := IntWalk.i64_in ((at_ : Int) + 1 - 1) (by omega)
    by_cases h256 : m ≤ 256
    · by_cases hod : ((at_ : Int) + 1) % 2 = 0
      · have hob : (((at_ : Int) + 1) % 2 == 0) = true := by simp [hod]
        go_quiet (fail)
        go_wp2_with fail
        go_quiet (fail)
        go_wp2_with fail
        go_quiet (fail)
        go_wp2_with fail
        clear hw1 hw2 hw3 hw4
        go_ret
        exact Drawn.mk hr1 (.inl hr2) ⟨_, _, _, _, at_ + 1, _, ((HW.out.drewN _).setAt (at_ + 1) (by omega)).drewN _⟩ (((HK.drewN _).setSelf _).drewN _)
      · have hob : (((at_ : Int) + 1) % 2 == 0) = false := by simp [hod]
        go_quiet (fail)
        go_wp2_with fail
        go_quiet (fail)
        go_wp2_with fail
        clear hw1 hw2 hw3 hw4
        go_ret
        exact Drawn.mk hr3 (.inl hr4) ⟨_, _, _, _, at_ + 1, _, ((HW.out.drewN _).setAt (at_ + 1) (by omega)).drewN 0⟩ (((HK.drewN _).setSelf _).drewN 0)
    · go_quiet (fail)
      go_wp2_with fail
      go_quiet (fail)
      go_wp2_with fail
      clear hw1 hw2 hw3 hw4
      go_ret
      exact Drawn.mk hr3 (.inl hr4) ⟨_, _, _, _, at_ + 1, _, ((HW.out.drewN _).setAt (at_ + 1) (by omega)).drewN 0⟩ (((HK.drewN _).setSelf _).drewN 0)
  · have g1 : ¬ (at_ : Int) < (n : Int) := by omega
    have c0 := h.c0
    have c1 := h.c1
    have c2 := h.c2
    have f2 := h.fz 2
    have H := Lib.hid h
    clear h
    go_enter Try.func93, Try.ntmps93
    go_wp2_with fail
    have s2 : 0 ≤ (seed * 48271 + 29) % 2147483647 := by omega
    have s3 : (seed * 48271 + 29) % 2147483647 < 2147483647 := by omega
    have HW := Lib.hid (H.out.setSeed _ s2 s3)
    have HK : Kept g (g + 1) w (w.setCell ⟨g, 2, none⟩ (.int .i64 ((seed * 48271 + 29) % 2147483647))) := (Kept.refl _ _ _).setSelf _
    generalize (seed * 48271 + 29) % 2147483647 = seed' at *
    generalize w.setCell ⟨g, 2, none⟩ (.int .i64 seed') = W at *
    have d0 := HW.out.c0
    have d1 := HW.out.c1
    have e1 := HW.out.fz 1
    clear c0 c1 c2 f2 H
    have hr3 : 0 ≤ (seed' / 31) % m := Int.emod_nonneg _ (by omega)
    have hr4 : (seed' / 31) % m < m := Int.emod_lt_of_pos _ (by omega)
    go_quiet (fail)
    go_wp2_with fail
    go_ret
    exact Drawn.mk hr3 (.inl hr4) ⟨_, _, _, _, at_, _, HW.out.drewN _⟩ (HK.drewN _)

/-- Bytes that come in. -/
def BR (w : World) (A : Option Addr) (bs : List Int) : Prop := BI w w.heap.size A bs ∧ ∀ x ∈ bs, 0 ≤ x ∧ x ≤ 255
set_option maxHeartbeats 2000000 in
theorem spec_l01From_c (A : Option Addr) (n c : Nat) (bs : List Int) (w : World) (hn : bs.length = n) (hm : n ≤ 1048576) (hr : BR w A bs) :
    Calls Try.prog 91 #[.slice A n c] w fun e w' => ∃ g, e = .returned (.pointer (some ⟨g, 0, none⟩)) ∧ Src w' w.heap.size g ∧ Below w.heap.size w w' := by
  subst hn
  obtain ⟨hb, hx⟩ := hr
  have hsrc : SrcAt (w.alloc (.cells #[.slice A bs.length c, .int .i64 0, .int .i64 45007] 141)) w.heap.size w.heap.size A bs.length c bs 0 45007 :=
    ⟨by simp, by simp, by simp, fun j => by simp, rfl, hm, by
      rcases hb with hb | ⟨b, off, e, h1, h2, h3⟩
      · exact .inl hb
      · exact .inr ⟨b, off, e, h1, by simp; omega, fun j x hx => (World.cell?_alloc_lt w _ _ h2).trans (h3 j x hx)⟩,
      hx, Nat.zero_le _, by omega, by omega, Nat.le_refl _, by simp⟩
  have hbel : Below w.heap.size w (w.alloc (.cells #[.slice A bs.length c, .int .i64 0, .int .i64 45007] 141)) := (Below.refl _ _).alloc (Nat.le_refl _) _
  have hcases : bs.length ≤ 0 ∨ ∃ b off, A = some ⟨b, off, none⟩ ∧ b < w.heap.size ∧ Hid (∀ (j : Nat) (x : Int), bs[j]? = some x → w.cell? ⟨b, off + j, none⟩ = some (.int .u8 x)) := by
    rcases hb with hb | ⟨b, off, e, h1, h2, h3⟩
    · exact .inl (by simp [hb])
    · exact .inr ⟨b, off, e, h1, h3⟩
  have HX := Lib.hid hx
  clear hx hb
  rcases hcases with h0 | ⟨b, off, rfl, hb, hc⟩
  all_goals
    go_enter Try.func91, Try.ntmps91
    go_wp2_with fail
    go_loopw [4] (fun i wr => ∃ (k : Nat) (seed : Int), i = .int .i64 k ∧ k ≤ bs.length ∧ k ≤ 64 ∧ (∃ A', SrcAt wr w.heap.size w.heap.size A' bs.length c bs 0 seed) ∧ Below w.heap.size w wr) (fun i _ => 64 - (intOf i).toNat)
    case atStart => exact ⟨0, _, rfl, Nat.zero_le _, by omega, ⟨_, hsrc⟩, hbel⟩
    case round =>
      obtain ⟨k, seed, rfl, hk, hk2, ⟨A', hs⟩, hbr⟩ := hrel
      by_cases hlt : k < bs.length
      · first
          | (exfalso; omega; done)
          | (by_cases h64 : k < 64
             · obtain ⟨x, hx⟩ := get_some hlt
               have hcx := (hbr.cell (p := ⟨b, off + k, none⟩) hb).trans (hc.out k x hx)
               obtain ⟨x0, x1⟩ := HX.out x (List.mem_of_getElem? hx)
               have c2 := hs.c2
               have f2 := hs.fz 2
               have s0 := hs.s0
               have s1 := hs.s1
               have g1 : (k : Int) < (bs.length : Int) := by omega
               have g2 : 0 ≤ (k : Int) := by omega
               have hw1 := IntWalk.i64_in x (by omega)
               have hw2 := IntWalk.i64_in (seed * 61) (by omega)
               have hw3 := IntWalk.i64_in (seed * 61 + x) (by omega)
               have e0 : 0 ≤ (seed * 61 + x) % 2147483647 := by omega
               have e1 : (seed * 61 + x) % 2147483647 < 2147483647 := by omega
               have ht : (seed * 61 + x).tmod 2147483647 = (seed * 61 + x) % 2147483647 := Int.tmod_eq_emod_of_nonneg (by omega)
               have HS := Lib.hid hs
               clear hs hx
               go_wp2_with fail
               go_region
               clear hw1 hw2 hw3 ht
               go_wp2_with fail
               go_roundw
               case rel => exact ⟨k + 1, _, by go_num, by omega, by omega, ⟨A', (HS.out.drewN 1).setSeed _ e0 e1⟩, (hbr.drew).setCell (Nat.le_refl _) _⟩
               case measure => simp [intOf]; omega
             · have HS := Lib.hid hs
               clear hs
               go_wp2_with fail
               go_ret
               exact ⟨_, rfl, ⟨_, _, _, _, _, _, HS.out⟩, hbr⟩)
      · have HS := Lib.hid hs
        clear hs
        go_wp2_with fail
        go_ret
        exact ⟨_, rfl, ⟨_, _, _, _, _, _, HS.out⟩, hbr⟩
theorem spec_l01Pick_c (w : World) (lo g : Nat) (A : Option Addr) (n c : Nat) (zs : List Int) (hs : Src w lo g) (hn : zs.length = n) (hn0 : 1 ≤ n) (hn1 : n ≤ 1000) (hr : RI w A zs) (hd : ∀ b off, A = some ⟨b, off, none⟩ → ¬ b = g) :
    Calls Try.prog 92 #[.pointer (some ⟨g, 0, none⟩), .slice A n c] w fun e w' => ∃ r : Int, e = .returned (.int .i64 r) ∧ r ∈ zs ∧ Src w' lo g ∧ Kept g (g + 1) w w' := by
  subst hn
  rcases hr.split with h0 | ⟨b, off, rfl, hb, hc⟩
  · omega
  · have hbg := hd b off rfl
    go_enter Try.func92, Try.ntmps92
    go_wp2_with fail
    refine (spec_l01Next_c _ lo g _ hs (by omega)).mono ?_
    rintro e w1 ⟨r, rfl, r0, r1, hs1, hk1⟩
    have hr2 : r < (zs.length : Int) := by omega
    obtain ⟨x, hx⟩ := get_some (zs := zs) (k := r.toNat) (by omega)
    have hcx := (World.cell?_of_block (a := ⟨b, off + r.toNat, none⟩) (hk1.block b hb (by omega))).trans (hc.out r.toNat x hx)
    have HX := Lib.hid hx
    clear hx r1
    go_wp2_with fail
    go_ret
    exact ⟨x, rfl, List.mem_of_getElem? HX.out, hs1, hk1⟩
end Go.Proofs.Ythpgkngkmmameaa
