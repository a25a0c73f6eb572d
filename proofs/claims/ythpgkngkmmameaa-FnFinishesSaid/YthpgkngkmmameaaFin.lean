/-
  The contracts of areFinishes, AreFinishes. Conditions: at most 1048576 elements.
-/
import Derived.Test.YthpgkngkmmameaaLawEv
namespace Go.Proofs.Ythpgkngkmmameaa
open Go.RowKit
set_option linter.unusedVariables false
/-- How many are less than x. -/
def cntL (l : List Int) (x : Int) : Int := ((l.filter fun y => decide (y < x)).length : Int)
theorem cntL_step {l : List Int} {k : Nat} {y x : Int} (hy : l[k]? = some y) : cntL (l.take (k + 1)) x = cntL (l.take k) x + if y < x then 1 else 0 := by
  unfold cntL
  rw [List.take_add_one, hy, List.filter_append, List.length_append]
  by_cases h : y < x <;> simp [h]
theorem cntL_bd (l : List Int) (x : Int) : 0 ≤ cntL l x ∧ cntL l x ≤ l.length := by
  unfold cntL
  have := List.length_filter_le (fun y => decide (y < x)) l
  omega
theorem cntL_take (l : List Int) (x : Int) (k : Nat) : 0 ≤ cntL (l.take k) x ∧ cntL (l.take k) x ≤ k := by
  have h := cntL_bd (l.take k) x
  have : (l.take k).length ≤ k := List.length_take_le _ _
  omega
def finB (fs : List Int) : Bool := fs.all fun x => cntL fs x == x
theorem impl_areFinishes_c (N B F G : Int) (A A' : Option Addr) (n c m d : Nat) (fs : List Int) (w : World) (hn : fs.length = m) (hm : m ≤ 1048576) (hr : RI w A' fs) :
    Calls Try.prog 112 #[.agg #[.int .i64 N, .int .i64 B, .int .i64 F, .int .i64 G, .slice A n c], .slice A' m d] w fun e w' => e = .returned (.bool ((m : Int) == N && finB fs)) ∧ Below w.heap.size w w' := by
  subst hn
  by_cases hl : (fs.length : Int) = N
  · have HL := Lib.hid (show ((fs.length : Int) == N && finB fs) = finB fs by simp [hl])
    have hne : ((fs.length : Int) != N) = false := by simp [hl]
    clear hl
    rcases hr.split with h0 | ⟨b, off, rfl, hb, hc⟩
    all_goals
      go_enter Try.func112, Try.ntmps112
      go_wp2_with fail
      go_loop [17] (fun i => ∃ k : Nat, i = .int .i64 k ∧ k ≤ fs.length ∧ Hid ((fs.take k).all (fun x => cntL fs x == x) = true)) (fun i => fs.length - (intOf i).toNat)
      case atStart => exact ⟨0, rfl, Nat.zero_le _, Lib.hid (by simp)⟩
      case round =>
        obtain ⟨k, rfl, hk, HA⟩ := hrel
        by_cases hlt : k < fs.length
        · first
            | (exfalso; omega; done)
            | (obtain ⟨x, hx⟩ := get_some hlt
               have hcx := hc.out k x hx
               have HX := Lib.hid hx
               clear hx
               have b1 : (k : Int) < (fs.length : Int) := by omega
               have b2 : (0 : Int) ≤ (k : Int) := by omega
               go_wp2_with fail
               go_loop [7, 23] (fun l j => ∃ q : Nat, l = .int .i64 (cntL (fs.take q) x) ∧ j = .int .i64 q ∧ q ≤ fs.length) (fun _ j => fs.length - (intOf j).toNat)
               case atStart => exact ⟨0, rfl, rfl, Nat.zero_le _⟩
               case round =>
                 obtain ⟨q, rfl, rfl, hq⟩ := hrel
                 obtain ⟨c0, c1⟩ := cntL_take fs x q
                 by_cases hlq : q < fs.length
                 · obtain ⟨y, hy⟩ := get_some hlq
                   have hcy := hc.out q y hy
                   have HS := Lib.hid (cntL_step (x := x) hy)
                   clear hy
                   have b3 : (q : Int) < (fs.length : Int) := by omega
                   have b4 : (0 : Int) ≤ (q : Int) := by omega
                   by_cases hyx : y < x
                   · have HS2 := Lib.hid (show cntL (fs.take (q + 1)) x = cntL (fs.take q) x + 1 by rw [HS.out, if_pos hyx])
                     go_wp2_with fail
                     go_round
                     case rel => exact ⟨q + 1, by rw [HS2.out], by go_num, by omega⟩
                     case measure => simp [intOf]; omega
                   · have HS2 := Lib.hid (show cntL (fs.take (q + 1)) x = cntL (fs.take q) x by rw [HS.out, if_neg hyx]; omega)
                     go_wp2_with fail
                     go_round
                     case rel => exact ⟨q + 1, by rw [HS2.out], by go_num, by omega⟩
                     case measure => simp [intOf]; omega
                 · have hqe : cntL (fs.take q) x = cntL fs x := by rw [List.take_of_length_le (by omega)]
                   rw [hqe]
                   clear hqe
                   cases hb : cntL fs x == x
                   · have hne2 : (cntL fs x != x) = true := by simpa using hb
                     have HF := Lib.hid (show finB fs = false from allB_fail (p := fun x => cntL fs x == x) HX.out hb)
                     clear hb
                     go_wp2_with fail
                     go_ret
                     exact ⟨ret_bool (by rw [HL.out, HF.out]), below_box _ _⟩
                   · have hne2 : (cntL fs x != x) = false := by simpa using hb
                     have HF := Lib.hid (show (fs.take (k + 1)).all (fun x => cntL fs x == x) = true by rw [allB_step (p := fun x => cntL fs x == x) HX.out, HA.out, hb]; rfl)
                     clear hb
                     go_wp2_with fail
                     go_round
                     case rel => exact ⟨k + 1, by go_num, by omega, HF⟩
                     case measure => simp [intOf]; omega)
        · have HF := Lib.hid (show finB fs = true from allB_done (p := fun x => cntL fs x == x) hlt HA.out)
          go_wp2_with fail
          go_ret
          exact ⟨ret_bool (by rw [HL.out, HF.out]), below_box _ _⟩
  · have HL := Lib.hid (show ((fs.length : Int) == N && finB fs) = false by simp [hl])
    have hne : ((fs.length : Int) != N) = true := by simp [hl]
    clear hl
    go_enter Try.func112, Try.ntmps112
    go_wp2_with fail
    go_ret
    exact ⟨ret_bool HL.out.symm, below_box _ _⟩
def aeB (N B F G : Int) (S fs : List Int) : Bool := evB N B F G S && ((fs.length : Int) == N && finB fs)
set_option maxHeartbeats 1000000 in
theorem impl_AreFinishes_c (N B F G : Int) (A : Option Addr) (n c : Nat) (S : List Int) (A' : Option Addr) (m d : Nat) (fs : List Int) (w : World) (hn : S.length = n) (hm : n ≤ 1048576) (hr : RI w A S) (hn' : fs.length = m) (hm' : m ≤ 1048576) (hr' : RI w A' fs) :
    Calls Try.prog 69 #[.agg #[.int .i64 N, .int .i64 B, .int .i64 F, .int .i64 G, .slice A n c], .slice A' m d] w fun e w' => e = .returned (.bool (aeB N B F G S fs)) ∧ Below w.heap.size w w' := by
  subst hn
  subst hn'
  have X0 := E5.new 58 w N B F G A S.length c
  cases h : evB N B F G S
  · have HR := Lib.hid (show aeB N B F G S fs = false by simp [aeB, h])
    go_enter Try.func69, Try.ntmps69
    go_wp2_with fail
    refine (impl_IsEvent_c _ _ _ _ _ _ _ S _ rfl hm (hr.boxed _)).mono ?_
    rintro e w1 ⟨rfl, b1⟩
    rw [h]
    go_wp2_with fail
    go_ret
    exact ⟨ret_bool HR.out.symm, (below_box _ _).trans (b1.mono (by simp))⟩
  · have HR := Lib.hid (show aeB N B F G S fs = ((fs.length : Int) == N && finB fs) by simp [aeB, h])
    go_enter Try.func69, Try.ntmps69
    go_wp2_with fail
    refine (impl_IsEvent_c _ _ _ _ _ _ _ S _ rfl hm (hr.boxed _)).mono ?_
    rintro e w1 ⟨rfl, b1⟩
    rw [h]
    have X1 := X0.below b1
    have bW := (below_box w (.cells #[.int .i64 N, .int .i64 B, .int .i64 F, .int .i64 G, .slice A S.length c] 58)).trans (b1.mono (by simp))
    have hr1 := hr'.below bW
    obtain ⟨c0, c1, c2, c3, c4⟩ := X1.cells
    clear X1 X0 h
    go_wp2_with fail
    refine (impl_areFinishes_c N B F G _ _ _ _ _ _ fs _ rfl hm' hr1).mono ?_
    rintro e w2 ⟨rfl, b2⟩
    go_wp2_with fail
    go_ret
    exact ⟨ret_bool HR.out.symm, below_step bW b2 bW.size⟩
set_option maxHeartbeats 4000000 in
theorem spec_AreFinishes_c (N B F G : Int) (A : Option Addr) (n c : Nat) (S : List Int) (A' : Option Addr) (m d : Nat) (fs : List Int) (w : World) (hn : S.length = n) (hm : n ≤ 1048576) (hr : RI w A S) (hn' : fs.length = m) (hm' : m ≤ 1048576) (hr' : RI w A' fs) :
    Calls Try.prog 165 #[.agg #[.int .i64 N, .int .i64 B, .int .i64 F, .int .i64 G, .slice A n c], .slice A' m d] w fun e w' => e = .returned (.bool (aeB N B F G S fs)) ∧ Below w.heap.size w w' := by
  subst hn
  subst hn'
  have X0 := E5.new 58 w N B F G A S.length c
  cases h : evB N B F G S
  · have HR := Lib.hid (show aeB N B F G S fs = false by simp [aeB, h])
    go_enter Try.func165, Try.ntmps165
    go_wp2_with fail
    refine (spec_IsEvent_c _ _ _ _ _ _ _ S _ rfl hm (hr.boxed _)).mono ?_
    rintro e w1 ⟨rfl, b1⟩
    rw [h]
    go_wp2_with fail
    go_ret
    exact ⟨ret_bool HR.out.symm, (below_box _ _).trans (b1.mono (by simp))⟩
  by_cases hl : (fs.length : Int) = N
  · have HR := Lib.hid (show aeB N B F G S fs = finB fs by simp [aeB, h, hl])
    have hne : ((fs.length : Int) != N) = false := by simp [hl]
    have HLN := Lib.hid hl
    clear hl
    rcases hr'.split with h0 | ⟨b, off, rfl, hb, hc⟩
    all_goals
      go_enter Try.func165, Try.ntmps165
      go_wp2_with fail
      refine (spec_IsEvent_c _ _ _ _ _ _ _ S _ rfl hm (hr.boxed _)).mono ?_
      rintro e w1 ⟨rfl, b1⟩
      rw [h]
      have X1 := X0.below b1
      have bW := (below_box w (.cells #[.int .i64 N, .int .i64 B, .int .i64 F, .int .i64 G, .slice A S.length c] 58)).trans (b1.mono (by simp))
      obtain ⟨c0, c1, c2, c3, c4⟩ := X1.cells
      clear b1
      go_wp2_with fail
      go_loopw [5] (fun i wr => ∃ k : Nat, i = .int .i64 k ∧ k ≤ fs.length ∧ Hid ((fs.take k).all (fun x => cntL fs x == x) = true) ∧ ∃ p, wr = w1.drewN p) (fun i _ => fs.length - (intOf i).toNat)
      case atStart => exact ⟨0, rfl, Nat.zero_le _, Lib.hid (by simp), 0, rfl⟩
      case round =>
        obtain ⟨k, rfl, hk, HA, p, rfl⟩ := hrel
        by_cases hlt : k < fs.length
        · first
            | (exfalso; omega; done)
            | (obtain ⟨x, hx⟩ := get_some hlt
               have hcx := (bW.cell (p := ⟨b, off + k, none⟩) hb).trans (hc.out k x hx)
               have HX := Lib.hid hx
               clear hx
               have b1 : (k : Int) < (fs.length : Int) := by omega
               have b2 : (0 : Int) ≤ (k : Int) := by omega
               have hdk : decide ((k : Int) < (fs.length : Int)) = true := by simp; omega
               go_wp2_with fail
               go_loopw [6, 7] (fun l j wr => ∃ q : Nat, l = .int .i64 (cntL (fs.take q) x) ∧ j = .int .i64 q ∧ q ≤ fs.length ∧ ∃ p, wr = w1.drewN p) (fun _ j _ => fs.length - (intOf j).toNat)
               case atStart => exact ⟨0, rfl, rfl, Nat.zero_le _, p, rfl⟩
               case round =>
                 obtain ⟨q, rfl, rfl, hq, p2, rfl⟩ := hrel
                 obtain ⟨c0', c1'⟩ := cntL_take fs x q
                 by_cases hlq : q < fs.length
                 · obtain ⟨y, hy⟩ := get_some hlq
                   have hcy := (bW.cell (p := ⟨b, off + q, none⟩) hb).trans (hc.out q y hy)
                   have HS := Lib.hid (cntL_step (x := x) hy)
                   clear hy
                   have b3 : (q : Int) < (fs.length : Int) := by omega
                   have b4 : (0 : Int) ≤ (q : Int) := by omega
                   by_cases hyx : y < x
                   · have HS2 := Lib.hid (show cntL (fs.take (q + 1)) x = cntL (fs.take q) x + 1 by rw [HS.out, if_pos hyx])
                     go_wp2_with fail
                     go_quiet (fail)
                     go_wp2_with fail
                     go_roundw
                     case rel => exact ⟨q + 1, by rw [HS2.out], by go_num, by omega, _, rfl⟩
                     case measure => simp [intOf]; omega
                   · have HS2 := Lib.hid (show cntL (fs.take (q + 1)) x = cntL (fs.take q) x by rw [HS.out, if_neg hyx]; omega)
                     go_wp2_with fail
                     go_quiet (fail)
                     go_wp2_with fail
                     go_roundw
                     case rel =>
                       first
                         | exact ⟨q + 1, by rw [HS2.out], by go_num, by omega, _, rfl⟩
                         | ((repeat apply Exists.intro); refine And.intro ?_ rfl; exact ⟨q + 1, by rw [HS2.out], by go_num, by omega, _, rfl⟩)
                     case measure => simp [intOf]; omega
                 · have hqe : cntL (fs.take q) x = cntL fs x := by rw [List.take_of_length_le (by omega)]
                   rw [hqe]
                   clear hqe
                   cases hb2 : cntL fs x == x
                   · have hne2 : (x != cntL fs x) = true := by
                       have : ¬ cntL fs x = x := by simpa using hb2
                       simpa using fun e : x = cntL fs x => this e.symm
                     have HF := Lib.hid (show finB fs = false from allB_fail (p := fun x => cntL fs x == x) HX.out hb2)
                     clear hb2
                     go_wp2_with fail
                     go_ret
                     exact ⟨ret_bool (by rw [HR.out, HF.out]), below_drewN bW _⟩
                   · have hne2 : (x != cntL fs x) = false := by
                       have : cntL fs x = x := by simpa using hb2
                       simp [this]
                     have HF := Lib.hid (show (fs.take (k + 1)).all (fun x => cntL fs x == x) = true by rw [allB_step (p := fun x => cntL fs x == x) HX.out, HA.out, hb2]; rfl)
                     clear hb2
                     go_wp2_with fail
                     go_roundw
                     case rel => exact ⟨k + 1, by go_num, by omega, HF, _, rfl⟩
                     case measure => simp [intOf]; omega)
        · have HF := Lib.hid (show finB fs = true from allB_done (p := fun x => cntL fs x == x) hlt HA.out)
          go_wp2_with fail
          go_ret
          exact ⟨ret_bool (by rw [HR.out, HF.out]), below_drewN bW _⟩
  · have HR := Lib.hid (show aeB N B F G S fs = false by simp [aeB, hl])
    have hne : ((fs.length : Int) != N) = true := by simp [hl]
    clear hl
    go_enter Try.func165, Try.ntmps165
    go_wp2_with fail
    refine (spec_IsEvent_c _ _ _ _ _ _ _ S _ rfl hm (hr.boxed _)).mono ?_
    rintro e w1 ⟨rfl, b1⟩
    rw [h]
    have X1 := X0.below b1
    have bW := (below_box w (.cells #[.int .i64 N, .int .i64 B, .int .i64 F, .int .i64 G, .slice A S.length c] 58)).trans (b1.mono (by simp))
    obtain ⟨c0, c1, c2, c3, c4⟩ := X1.cells
    clear b1
    go_wp2_with fail
    go_ret
    exact ⟨ret_bool HR.out.symm, bW⟩
end Go.Proofs.Ythpgkngkmmameaa
