/-
  The contracts of the laws' own helpers on []int64: copy, compare, mark, look at the marks. Conditions: at most 1048576 elements; what is marked is owned.
-/
import Derived.Test.YthpgkngkmmameaaMem
import Derived.Test.YthpgkngkmmameaaPlainList
namespace Go.Proofs.Ythpgkngkmmameaa
open Go.RowKit
set_option linter.unusedVariables false


theorem laws_toInt64S_c (A : Option Addr) (n c : Nat) (zs : List Int) (w : World) (hn : zs.length = n) (hm : n ≤ 1048576) (hr : RI w A zs) :
    Calls Try.prog 14 #[.slice A n c] w fun e w' => ∃ g, e = .returned (.slice (some ⟨g, 0, none⟩) n n) ∧ OI w' w.heap.size w'.heap.size (some ⟨g, 0, none⟩) zs ∧ Below w.heap.size w w' := by
  subst hn
  obtain ⟨i0, hi, hz0, hz1, hz2⟩ := info_parts info_int
  rcases hr.split with h0 | ⟨b, off, rfl, hb, hc⟩
  all_goals
    go_enter Try.func14, Try.ntmps14
    go_wp2_with (at_make; refine wpList_make_full _ rfl _ _ _ rfl w.heap.size 2 i0 _ 1 Try.underlying22 hi hz0 hz1 _ _ _ _ zs.length rfl rfl rfl rfl (by rw [hz2]; omega) (by unfold maxLen; omega) (Nat.le_refl _) ?_; intro w1 hown1 hg1)
    have hz := (hown1.lt _ rfl).2
    rw [Nat.mul_one, show (Value.int IntKind.i64 0).cells = #[Value.int IntKind.i64 0] from rfl, toList_madeCells_one, show List.replicate zs.length (Value.int IntKind.i64 0) = (List.replicate zs.length (0 : Int)).map (.int .i64) from by simp] at hown1
    have ho1 := OI.of_row hown1
    have hb1 : Below w.heap.size w w1 := (Below.refl _ _).grown hg1 (Nat.le_refl _) (by simp)
    clear hown1 hg1 hi hz0 hz1 hz2
    go_loopw [4] (fun i wr => ∃ k : Nat, i = .int .i64 k ∧ k ≤ zs.length ∧ w1.heap.size ≤ wr.heap.size ∧ OI wr w.heap.size w1.heap.size (some ⟨w.heap.size, 0, none⟩) (zs.take k ++ List.replicate (zs.length - k) 0) ∧ Below w.heap.size w wr) (fun i _ => zs.length - (intOf i).toNat)
    case atStart => exact ⟨0, rfl, Nat.zero_le _, Nat.le_refl _, by simpa using ho1, hb1⟩
    case round =>
      obtain ⟨k, rfl, hk, hsz, ho, hbr⟩ := hrel
      by_cases hlt : k < zs.length
      · first
          | (exfalso; omega; done)
          | (obtain ⟨x, hx⟩ := get_some hlt
             have hcx := (hbr.cell (p := ⟨b, off + k, none⟩) hb).trans (hc.out k x hx)
             obtain ⟨⟨y, hg1⟩, hg2⟩ := OI.at_ ho (j := k) (by simp; omega)
             have hset := OI.set ho (j := k) (by simp; omega) x
             rw [Nat.zero_add] at hg1 hg2 hset
             rw [copy_step zs _ k x rfl hlt hx] at hset
             have HX := Lib.hid hx
             clear hx
             go_wp2
             go_roundw
             case rel => exact ⟨k + 1, by go_num, by omega, by simpa [World.setCell] using hsz, hset, hbr.setCell (Nat.le_refl _) _⟩
             case measure => simp [intOf]; omega)
      · go_wp2
        go_ret
        refine ⟨_, rfl, ?_, hbr⟩
        rw [List.take_of_length_le (by omega), show zs.length - k = 0 from by omega, List.replicate_zero, List.append_nil] at ho
        exact ho.widen (Nat.le_refl _) hsz

theorem laws_eqInt64S_c (A B : Option Addr) (n m c d : Nat) (zs : List Int) (w : World) (hn : zs.length = n) (hn' : zs.length = m) (hm : n ≤ 1048576) (hr : RI w A zs) (hr' : RI w B zs) :
    Calls Try.prog 16 #[.slice A n c, .slice B m d] w fun e w' => e = .returned (.bool true) ∧ Below w.heap.size w w' := by
  subst hn
  subst hn'
  rcases hr.split with h0 | ⟨b, off, rfl, hb, hc⟩
  · go_enter Try.func16, Try.ntmps16
    go_wp2
    go_loop [5] (fun i => ∃ k : Nat, i = .int .i64 k ∧ k ≤ zs.length) (fun i => zs.length - (intOf i).toNat)
    case atStart => exact ⟨0, rfl, Nat.zero_le _⟩
    case round =>
      obtain ⟨k, rfl, hk⟩ := hrel
      have hge : ¬ k < zs.length := by omega
      go_wp2
      go_ret
      exact ⟨rfl, Below.refl _ _⟩
  · rcases hr'.split with h0 | ⟨b', off', rfl, hb', hc'⟩
    · go_enter Try.func16, Try.ntmps16
      go_wp2
      go_loop [5] (fun i => ∃ k : Nat, i = .int .i64 k ∧ k ≤ zs.length) (fun i => zs.length - (intOf i).toNat)
      case atStart => exact ⟨0, rfl, Nat.zero_le _⟩
      case round =>
        obtain ⟨k, rfl, hk⟩ := hrel
        have hge : ¬ k < zs.length := by omega
        go_wp2
        go_ret
        exact ⟨rfl, Below.refl _ _⟩
    · go_enter Try.func16, Try.ntmps16
      go_wp2
      go_loopw [5] (fun i wr => ∃ k : Nat, i = .int .i64 k ∧ k ≤ zs.length ∧ ∃ q, wr = w.drewN q) (fun i _ => zs.length - (intOf i).toNat)
      case atStart => exact ⟨0, rfl, Nat.zero_le _, 0, rfl⟩
      case round =>
        obtain ⟨k, rfl, hk, q, rfl⟩ := hrel
        by_cases hlt : k < zs.length
        · obtain ⟨x, hx⟩ := get_some hlt
          have hcx := hc.out k x hx
          have hcx' := hc'.out k x hx
          clear hx
          go_wp2
          go_quiet (fail)
          go_wp2
          go_roundw
          case rel => exact ⟨k + 1, by go_num, by omega, _, rfl⟩
          case measure => simp [intOf]; omega
        · go_wp2
          go_ret
          exact ⟨rfl, below_drewN (Below.refl _ _) _⟩

theorem laws_markInt64S_c (A : Option Addr) (n c : Nat) (zs : List Int) (s : Int) (lo hi : Nat) (w : World) (hn : zs.length = n) (hm : n ≤ 1048576) (hs0 : 0 ≤ s) (hs1 : s ≤ 1000000000) (ho : OI w lo hi A zs) :
    Calls Try.prog 17 #[.slice A n c, .int .i64 s] w fun e w' => e = .returned (.int .i64 (s + n)) ∧ OI w' lo hi A (marks s n) ∧ Kept lo hi w w' := by
  subst hn
  rcases ho.ri.split with h0 | ⟨b, off, rfl, hb, hc⟩
  · go_enter Try.func17, Try.ntmps17
    go_wp2
    go_loop [1, 5] (fun t i => i = .int .i64 0 ∧ t = .int .i64 s) (fun _ i => zs.length - (intOf i).toNat)
    case atStart => exact ⟨rfl, rfl⟩
    case round =>
      obtain ⟨rfl, rfl⟩ := hrel
      have hge : ¬ 0 < zs.length := by omega
      go_wp2
      go_ret
      have h00 : zs.length = 0 := by omega
      refine ⟨ret_int (by omega), ?_, Kept.refl _ _ _⟩
      rw [h00]
      exact .inl rfl
  · go_enter Try.func17, Try.ntmps17
    go_wp2
    go_loopw [1, 5] (fun t i wr => ∃ k : Nat, t = .int .i64 (s + k) ∧ i = .int .i64 k ∧ k ≤ zs.length ∧ OI wr lo hi (some ⟨b, off, none⟩) ((marks s zs.length).take k ++ zs.drop k) ∧ Kept lo hi w wr) (fun _ i _ => zs.length - (intOf i).toNat)
    case atStart => exact ⟨0, by simp, rfl, Nat.zero_le _, by simpa using ho, Kept.refl _ _ _⟩
    case round =>
      obtain ⟨k, rfl, rfl, hk, hok, hkr⟩ := hrel
      by_cases hlt : k < zs.length
      · have hlen : ((marks s zs.length).take k ++ zs.drop k).length = zs.length := by simp [marks_length]; omega
        obtain ⟨⟨y, hg1⟩, hg2⟩ := OI.at_ hok (j := k) (by omega)
        have hset := OI.set hok (j := k) (by omega) (s + k)
        rw [mark_step zs s _ k rfl hlt] at hset
        have hbl := OI.lt hok (by omega)
        have HL := Lib.hid hlen
        clear hlen
        go_wp2
        go_roundw
        case rel => exact ⟨k + 1, by go_num, by go_num, by omega, hset, hkr.setCell (.inl ⟨hbl.1, hbl.2.1⟩) _⟩
        case measure => simp [intOf]; omega
      · go_wp2
        go_ret
        have hke : k = zs.length := by omega
        rw [hke, List.take_of_length_le (by rw [marks_length]; omega), List.drop_length, List.append_nil] at hok
        exact ⟨ret_int (by rw [hke]), hok, hkr⟩

theorem laws_heldInt64S_c (A : Option Addr) (n c : Nat) (s : Int) (w : World) (hm : n ≤ 1048576) (hs0 : 0 ≤ s) (hs1 : s ≤ 1000000000) (hr : RI w A (marks s n)) :
    Calls Try.prog 18 #[.slice A n c, .int .i64 s] w fun e w' => e = .returned (.int .i64 (s + n)) ∧ w = w' := by
  rcases hr.split with h0 | ⟨b, off, rfl, hb, hc⟩
  · rw [marks_length] at h0
    go_enter Try.func18, Try.ntmps18
    go_wp2
    go_loop [1, 5] (fun t i => i = .int .i64 0 ∧ t = .int .i64 s) (fun _ i => n - (intOf i).toNat)
    case atStart => exact ⟨rfl, rfl⟩
    case round =>
      obtain ⟨rfl, rfl⟩ := hrel
      have hge : ¬ 0 < n := by omega
      go_wp2
      go_ret
      exact ⟨ret_int (by omega), rfl⟩
  · go_enter Try.func18, Try.ntmps18
    go_wp2
    go_loop [1, 5] (fun t i => ∃ k : Nat, t = .int .i64 (s + k) ∧ i = .int .i64 k ∧ k ≤ n) (fun _ i => n - (intOf i).toNat)
    case atStart => exact ⟨0, by simp, rfl, Nat.zero_le _⟩
    case round =>
      obtain ⟨k, rfl, rfl, hk⟩ := hrel
      by_cases hlt : k < n
      · have hcx := hc.out k (s + k) (marks_get n s k hlt)
        go_wp2
        go_round
        case rel => exact ⟨k + 1, by go_num, by go_num, by omega⟩
        case measure => simp [intOf]; omega
      · go_wp2
        go_ret
        have hke : k = n := by omega
        exact ⟨ret_int (by rw [hke]), rfl⟩
end Go.Proofs.Ythpgkngkmmameaa
