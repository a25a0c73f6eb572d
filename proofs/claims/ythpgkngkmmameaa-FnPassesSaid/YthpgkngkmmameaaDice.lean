/-
  The laws' own source of numbers: roll, below. Conditions: a code of at most 1048576 bytes.
-/
import Derived.Test.YthpgkngkmmameaaArgB
import Derived.BigRegion
namespace Go.Proofs.Ythpgkngkmmameaa
open Go.RowKit
set_option linter.unusedVariables false
structure DiceAt (w : World) (lo g : Nat) (A : Option Addr) (n c : Nat) (bs : List Int) (i : Nat) (h : Int) : Prop where
  c0 : w.cell? ⟨g, 0, none⟩ = some (.slice A n c)
  c1 : w.cell? ⟨g, 1, none⟩ = some (.int .i64 i)
  c2 : w.cell? ⟨g, 2, none⟩ = some (.int .u64 h)
  fz : ∀ j, w.frozen? ⟨g, j, none⟩ = false
  len : bs.length = n
  n1 : n ≤ 1048576
  bytes : BI w lo A bs
  range : ∀ x ∈ bs, 0 ≤ x ∧ x ≤ 255
  le : i ≤ n
  s0 : 0 ≤ h
  s1 : h < 18446744073709551616
  lg : lo ≤ g
  gs : g < w.heap.size
section
variable {w w' : World} {lo g : Nat} {A : Option Addr} {n c : Nat} {bs : List Int} {i : Nat} {h : Int}
theorem DiceAt.drewN (d : DiceAt w lo g A n c bs i h) (k : Nat) : DiceAt (w.drewN k) lo g A n c bs i h := ⟨d.c0, d.c1, d.c2, d.fz, d.len, d.n1, d.bytes, d.range, d.le, d.s0, d.s1, d.lg, d.gs⟩
theorem DiceAt.setH (d : DiceAt w lo g A n c bs i h) (v : Int) (h0 : 0 ≤ v) (h1 : v < 18446744073709551616) : DiceAt (w.setCell ⟨g, 2, none⟩ (.int .u64 v)) lo g A n c bs i v :=
  ⟨by rw [World.cell?_setCell_other _ _ _ _ (by intro e; cases e)]; exact d.c0, by rw [World.cell?_setCell_other _ _ _ _ (by intro e; cases e)]; exact d.c1, World.cell?_setCell_same w _ _ d.c2,
    fun j => by simpa using d.fz j, d.len, d.n1, d.bytes.kept ((Kept.refl g (g + 1) w).setSelf _) d.lg, d.range, d.le, h0, h1, d.lg, by simpa [World.setCell] using d.gs⟩
theorem DiceAt.setI (d : DiceAt w lo g A n c bs i h) (k : Nat) (hk : k ≤ n) : DiceAt (w.setCell ⟨g, 1, none⟩ (.int .i64 k)) lo g A n c bs k h :=
  ⟨by rw [World.cell?_setCell_other _ _ _ _ (by intro e; cases e)]; exact d.c0, World.cell?_setCell_same w _ _ d.c1, by rw [World.cell?_setCell_other _ _ _ _ (by intro e; cases e)]; exact d.c2,
    fun j => by simpa using d.fz j, d.len, d.n1, d.bytes.kept ((Kept.refl g (g + 1) w).setSelf _) d.lg, d.range, hk, d.s0, d.s1, d.lg, by simpa [World.setCell] using d.gs⟩
end
theorem u64_nonneg (y : Int) : 0 ≤ IntKind.u64.wrap y := by rw [IntKind.wrap_u64]; omega
theorem u64_lt (y : Int) : IntKind.u64.wrap y < 18446744073709551616 := by rw [IntKind.wrap_u64]; omega
set_option maxHeartbeats 2000000 in
theorem laws_roll_c (A : Option Addr) (n c : Nat) (bs : List Int) (s : Int) (w : World) (hn : bs.length = n) (hm : n ≤ 1048576) (hr : BR w A bs) (s0 : 0 ≤ s) (s1 : s ≤ 100000) :
    Calls Try.prog 79 #[.slice A n c, .int .u64 s] w fun e w' => ∃ g h, e = .returned (.pointer (some ⟨g, 0, none⟩)) ∧ DiceAt w' w.heap.size g A n c bs 0 h ∧ Below w.heap.size w w' := by
  subst hn
  obtain ⟨hb, hx⟩ := hr
  have hd : ∀ v : Int, 0 ≤ v → v < 18446744073709551616 → DiceAt (w.alloc (.cells #[.slice A bs.length c, .int .i64 0, .int .u64 v] 126)) w.heap.size w.heap.size A bs.length c bs 0 v := fun v v0 v1 =>
    ⟨by simp, by simp, by simp, fun j => by simp, rfl, hm, by
      rcases hb with hb | ⟨b, off, e, h1, h2, h3⟩
      · exact .inl hb
      · exact .inr ⟨b, off, e, h1, by simp; omega, fun j x hx => (World.cell?_alloc_lt w _ _ h2).trans (h3 j x hx)⟩,
      hx, Nat.zero_le _, v0, v1, Nat.le_refl _, by simp⟩
  have HD := Lib.hid hd
  clear hd
  have hcases : bs.length ≤ 0 ∨ ∃ b off, A = some ⟨b, off, none⟩ ∧ b < w.heap.size ∧ Hid (∀ (j : Nat) (x : Int), bs[j]? = some x → w.cell? ⟨b, off + j, none⟩ = some (.int .u8 x)) := by
    rcases hb with hb | ⟨b, off, e, h1, h2, h3⟩
    · exact .inl (by simp [hb])
    · exact .inr ⟨b, off, e, h1, h3⟩
  have HX := Lib.hid hx
  clear hx hb
  rcases hcases with h0 | ⟨b, off, rfl, hb, hc⟩
  all_goals
    go_enter Try.func79, Try.ntmps79
    go_wp2_with fail
    go_loopw [6] (fun i wr => ∃ (k : Nat) (h : Int), i = .int .i64 k ∧ k ≤ bs.length ∧ (∃ A', A' = _ ∧ DiceAt wr w.heap.size w.heap.size A' bs.length c bs 0 h) ∧ Below w.heap.size w wr) (fun i _ => bs.length - (intOf i).toNat)
    case atStart => exact ⟨0, _, rfl, Nat.zero_le _, ⟨_, rfl, HD.out _ (by omega) (by omega)⟩, (Below.refl _ _).alloc (Nat.le_refl _) _⟩
    case round =>
      obtain ⟨k, h, rfl, hk, ⟨A', hA, hs⟩, hbr⟩ := hrel
      subst hA
      by_cases hlt : k < bs.length
      · first
          | (exfalso; omega; done)
          | (obtain ⟨x, hx⟩ := get_some hlt
             have hcx := (hbr.cell (p := ⟨b, off + k, none⟩) hb).trans (hc.out k x hx)
             obtain ⟨x0, x1⟩ := HX.out x (List.mem_of_getElem? hx)
             have c2 := hs.c2
             have f2 := hs.fz 2
             have s0 := hs.s0
             have s1 := hs.s1
             have g1 : (k : Int) < (bs.length : Int) := by omega
             have g2 : 0 ≤ (k : Int) := by omega
             have H := Lib.hid hs
             have HB := Lib.hid hbr
             clear hx hs hbr
             go_wp2_with fail
             go_region
             go_wp2_with fail
             go_roundw
             case rel => exact ⟨k + 1, _, by go_num, by omega, ⟨_, rfl, (H.out.setH _ (u64_nonneg _) (u64_lt _)).drewN 1⟩, (HB.out.setCell (Nat.le_refl _) _).drew⟩
             case measure => simp [intOf]; omega)
      · go_wp2_with fail
        go_ret
        exact ⟨_, _, rfl, hs, hbr⟩
theorem and_in {V : Int} (h0 : 0 ≤ V) (h1 : V < 18446744073709551616) : 0 ≤ wrap64 (bits .and .u64 V 16777215) ∧ wrap64 (bits .and .u64 V 16777215) < 16777216 := by
  obtain ⟨v, rfl⟩ : ∃ v : Nat, V = v := ⟨V.toNat, by omega⟩
  have h := u64_and_nat v 16777215 (by omega) (by omega)
  rw [show ((16777215 : Nat) : Int) = 16777215 from rfl] at h
  rw [h]
  have hl : v &&& 16777215 ≤ 16777215 := Nat.and_le_right
  generalize v &&& 16777215 = u at *
  rw [IntWalk.wrap64_in _ (by omega)]
  omega
set_option maxHeartbeats 2000000 in
theorem laws_below_c (w : World) (lo g : Nat) (A : Option Addr) (n c : Nat) (bs : List Int) (i : Nat) (h : Int) (m : Int) (d : DiceAt w lo g A n c bs i h) (m0 : 1 ≤ m) (m1 : m ≤ 1000000) :
    Calls Try.prog 80 #[.pointer (some ⟨g, 0, none⟩), .int .i64 m] w fun e w' => ∃ r : Int, e = .returned (.int .i64 r) ∧ 0 ≤ r ∧ r < m ∧ (∃ i' h', DiceAt w' lo g A n c bs i' h') ∧ Kept g (g + 1) w w' := by
  have c0 := d.c0
  have c1 := d.c1
  have c2 := d.c2
  have f1 := d.fz 1
  have f2 := d.fz 2
  have s0 := d.s0
  have s1 := d.s1
  have hle := d.le
  have hn1 := d.n1
  have H := Lib.hid d
  clear d
  have g0 : 0 ≤ (i : Int) := by omega
  go_enter Try.func80, Try.ntmps80
  go_wp2_with fail
  have v0 := u64_nonneg (IntKind.u64.wrap (h * 6364136223846793005) + 1442695040888963407)
  have v1 := u64_lt (IntKind.u64.wrap (h * 6364136223846793005) + 1442695040888963407)
  have HW := Lib.hid (H.out.setH _ v0 v1)
  have HK : Kept g (g + 1) w (w.setCell ⟨g, 2, none⟩ (.int .u64 (IntKind.u64.wrap (IntKind.u64.wrap (h * 6364136223846793005) + 1442695040888963407)))) := (Kept.refl _ _ _).setSelf _
  generalize IntKind.u64.wrap (IntKind.u64.wrap (h * 6364136223846793005) + 1442695040888963407) = V at *
  obtain ⟨x0, x1⟩ := and_in (V := V / 8589934592) (by omega) (by omega)
  generalize wrap64 (bits .and .u64 (V / 8589934592) 16777215) = X at *
  generalize w.setCell ⟨g, 2, none⟩ (.int .u64 V) = W at *
  have d0 := HW.out.c0
  have d1 := HW.out.c1
  have e1 := HW.out.fz 1
  clear c0 c1 c2 f1 f2 H v0 v1
  have hw4 := IntWalk.i64_in ((i : Int) + 1) (by omega)
  by_cases hat : i < n
  · have hbi := HW.out.bytes
    obtain ⟨y, hy⟩ := get_some (zs := bs) (k := i) (by rw [HW.out.len]; exact hat)
    obtain ⟨y0, y1⟩ := HW.out.range y (List.mem_of_getElem? hy)
    rcases hbi with hbi | ⟨b, off, rfl, hblo, hbs, hcell⟩
    · rw [hbi] at hy; simp at hy
    have hcx := hcell i y hy
    clear hcell hy
    have g1 : (i : Int) < (n : Int) := by omega
    have hr1 : 0 ≤ (X + y) % m := Int.emod_nonneg _ (by omega)
    have hr2 : (X + y) % m < m := Int.emod_lt_of_pos _ (by omega)
    have hw1 := IntWalk.i64_in y (by omega)
    have hw2 := IntWalk.i64_in (X + y) (by omega)
    go_quiet (fail)
    go_wp2_with fail
    go_quiet (fail)
    go_wp2_with fail
    clear hw1 hw2 hw4
    go_ret
    exact ⟨_, rfl, hr1, hr2, ⟨i + 1, _, (HW.out.drewN _).setI (i + 1) (by omega)⟩, (HK.drewN _).setSelf _⟩
  · have g1 : ¬ (i : Int) < (n : Int) := by omega
    have hr1 : 0 ≤ X % m := Int.emod_nonneg _ (by omega)
    have hr2 : X % m < m := Int.emod_lt_of_pos _ (by omega)
    go_quiet (fail)
    go_wp2_with fail
    go_ret
    exact ⟨_, rfl, hr1, hr2, ⟨_, _, HW.out.drewN _⟩, HK.drewN _⟩
end Go.Proofs.Ythpgkngkmmameaa
