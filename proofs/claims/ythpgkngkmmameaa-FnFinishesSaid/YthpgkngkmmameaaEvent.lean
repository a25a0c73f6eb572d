/-
  The contracts of IsEvent. Conditions: at most 1048576 shares.
-/
import Derived.Test.YthpgkngkmmameaaDesc
import Derived.Test.YthpgkngkmmameaaQuiet
namespace Go.Proofs.Ythpgkngkmmameaa
open Go.RowKit
set_option linter.unusedVariables false
theorem RI.boxed {w : World} {A : Option Addr} {zs : List Int} (h : RI w A zs) (o : Obj) : RI (w.alloc o) A zs := h.below ((Below.refl _ _).alloc (Nat.le_refl _) o)
theorem below_box (w : World) (o : Obj) : Below w.heap.size w (w.alloc o) := (Below.refl _ _).alloc (Nat.le_refl _) o
theorem drew_two' (w : World) (q n : Nat) : ∃ r, (w.drewN q).drewN n = w.drewN r := ⟨q + n, by rw [World.drewN_drewN]⟩
def evM (N : Int) : Int := if N < 12 then N else 12
def evB (N B F G : Int) (S : List Int) : Bool := inB N 2 60 && inB B 0 1000 && inB F 0 1000 && inB G 0 1000000 && inB (S.length : Int) 1 (evM N) && allIn S 1 1000 && descB S && (sumL S == 1000)
theorem evB_iff {N B F G : Int} {S : List Int} : evB N B F G S = true ↔ (2 ≤ N ∧ N ≤ 60) ∧ (0 ≤ B ∧ B ≤ 1000) ∧ (0 ≤ F ∧ F ≤ 1000) ∧ (0 ≤ G ∧ G ≤ 1000000) ∧ (1 ≤ S.length ∧ (S.length : Int) ≤ N ∧ S.length ≤ 12) ∧ (∀ x ∈ S, 1 ≤ x ∧ x ≤ 1000) ∧ descB S = true ∧ sumL S = 1000 := by
  unfold evB evM
  simp only [Bool.and_eq_true, inB_iff, allIn_iff, beq_iff_eq]
  constructor
  · rintro ⟨⟨⟨⟨⟨⟨⟨a, b⟩, c⟩, d⟩, e⟩, f⟩, g⟩, h⟩
    refine ⟨a, b, c, d, ⟨by omega, ?_, ?_⟩, f, g, h⟩ <;> (split at e <;> omega)
  · rintro ⟨a, b, c, d, e, f, g, h⟩
    refine ⟨⟨⟨⟨⟨⟨⟨a, b⟩, c⟩, d⟩, ?_⟩, f⟩, g⟩, h⟩
    split <;> omega
set_option maxHeartbeats 2000000 in
theorem impl_IsEvent_c (N B F G : Int) (A : Option Addr) (n c : Nat) (S : List Int) (w : World) (hn : S.length = n) (hm : n ≤ 1048576) (hr : RI w A S) :
    Calls Try.prog 66 #[.agg #[.int .i64 N, .int .i64 B, .int .i64 F, .int .i64 G, .slice A n c]] w fun e w' => e = .returned (.bool (evB N B F G S)) ∧ Below w.heap.size w w' := by
  subst hn
  cases h1 : inB N 2 60
  · have HR := Lib.hid (show evB N B F G S = false by simp [evB, h1])
    go_enter Try.func66, Try.ntmps66
    go_wp2_with (go_at_call 94; refine (impl_within_c _ _ _ _).mono ?_; rintro e w' ⟨rfl, rfl⟩)
    go_ret
    exact ⟨ret_bool HR.out.symm, below_box _ _⟩
  cases h2 : inB B 0 1000
  · have HR := Lib.hid (show evB N B F G S = false by simp [evB, h2])
    go_enter Try.func66, Try.ntmps66
    go_wp2_with (go_at_call 94; refine (impl_within_c _ _ _ _).mono ?_; rintro e w' ⟨rfl, rfl⟩)
    go_ret
    exact ⟨ret_bool HR.out.symm, below_box _ _⟩
  cases h3 : inB F 0 1000
  · have HR := Lib.hid (show evB N B F G S = false by simp [evB, h3])
    go_enter Try.func66, Try.ntmps66
    go_wp2_with (go_at_call 94; refine (impl_within_c _ _ _ _).mono ?_; rintro e w' ⟨rfl, rfl⟩)
    go_ret
    exact ⟨ret_bool HR.out.symm, below_box _ _⟩
  cases h4 : inB G 0 1000000
  · have HR := Lib.hid (show evB N B F G S = false by simp [evB, h4])
    go_enter Try.func66, Try.ntmps66
    go_wp2_with (go_at_call 94; refine (impl_within_c _ _ _ _).mono ?_; rintro e w' ⟨rfl, rfl⟩)
    go_ret
    exact ⟨ret_bool HR.out.symm, below_box _ _⟩
  rcases Int.lt_trichotomy N 12 with hN | rfl | hN
  · cases h5 : inB (S.length : Int) 1 N
    · have HR := Lib.hid (show evB N B F G S = false by simp [evB, evM, hN, h5])
      go_enter Try.func66, Try.ntmps66
      go_wp2_with (go_at_call 94; refine (impl_within_c _ _ _ _).mono ?_; rintro e w' ⟨rfl, rfl⟩)
      go_ret
      exact ⟨ret_bool HR.out.symm, below_box _ _⟩
    cases h6 : allIn S 1 1000
    · have HR := Lib.hid (show evB N B F G S = false by simp [evB, h6])
      go_enter Try.func66, Try.ntmps66
      go_wp2_with (first
        | (go_at_call 94; refine (impl_within_c _ _ _ _).mono ?_; rintro e w' ⟨rfl, rfl⟩)
        | (go_at_call 95; refine (impl_allWithin_c _ _ _ S _ _ _ rfl hm (hr.boxed _)).mono ?_; rintro e w' ⟨rfl, rfl⟩))
      go_ret
      exact ⟨ret_bool HR.out.symm, below_box _ _⟩
    have HP := Lib.hid (show evB N B F G S = (descB S && (sumL S == 1000)) by simp [evB, evM, h1, h2, h3, h4, hN, h5, h6])
    have hlen : 1 ≤ S.length := by have := inB_iff.1 h5; omega
    have hz := Lib.hid (show ∀ x ∈ S, -4000000000 ≤ x ∧ x ≤ 4000000000 from fun x hx => by have := allIn_iff.1 h6 x hx; omega)
    rcases hr.split with h0 | ⟨b, off, rfl, hb, hc⟩
    · omega
    have hc' := Lib.hid (fun (j : Nat) (x : Int) (hx : S[j]? = some x) => ((below_box w (.cells #[.int .i64 N, .int .i64 B, .int .i64 F, .int .i64 G, .slice (some ⟨b, off, none⟩) S.length c] 58)).cell (p := ⟨b, off + j, none⟩) hb).trans (hc.out j x hx))
    go_enter Try.func66, Try.ntmps66
    go_wp2_with (first
      | (go_at_call 94; refine (impl_within_c _ _ _ _).mono ?_; rintro e w' ⟨rfl, rfl⟩)
      | (go_at_call 95; refine (impl_allWithin_c _ _ _ S _ _ _ rfl hm (hr.boxed _)).mono ?_; rintro e w' ⟨rfl, rfl⟩))
    go_loopw [3] (fun i wr => ∃ k : Nat, i = .int .i64 (k + 1 : Nat) ∧ k + 1 ≤ S.length ∧ Hid (descTo S (k + 1) = true) ∧ ∃ q, wr = (w.alloc (.cells #[.int .i64 N, .int .i64 B, .int .i64 F, .int .i64 G, .slice (some ⟨b, off, none⟩) S.length c] 58)).drewN q) (fun i _ => S.length - (intOf i).toNat)
    case atStart => exact ⟨0, rfl, hlen, Lib.hid (by simp [descTo]), 0, rfl⟩
    case round =>
      obtain ⟨k, rfl, hk, hd, q, rfl⟩ := hrel
      by_cases hlt : k + 1 < S.length
      · obtain ⟨x, hx⟩ := get_some hlt
        obtain ⟨y, hy⟩ := get_some (zs := S) (k := k) (by omega)
        have hcx := hc.out (k + 1) x hx
        have hcy := hc.out k y hy
        have e0 : IntKind.i64.wrap (((k + 1 : Nat) : Int) - 1) = (k : Int) := by rw [IntKind.wrap_i64]; omega
        have HX := Lib.hid hx
        have HY := Lib.hid hy
        clear hx hy
        have b1 : ((k + 1 : Nat) : Int) < (S.length : Int) := by omega
        have b2 : (0 : Int) ≤ ((k + 1 : Nat) : Int) := by omega
        have b3 : (k : Int) < (S.length : Int) := by omega
        have b4 : (0 : Int) ≤ (k : Int) := by omega
        by_cases hxy : y < x
        · have HR := Lib.hid (desc_bad (k := k + 1) (by omega) HX.out HY.out hxy)
          go_wp2_with fail
          go_quiet (fail)
          go_wp2_with fail
          go_ret
          exact ⟨ret_bool (by rw [HP.out, HR.out]; rfl), below_drewN (below_drewN (below_box _ _) _) _⟩
        · have HS := Lib.hid (desc_step hd.out (.inr (by omega)) HX.out (fun _ => HY.out) (fun _ => by omega))
          go_wp2_with fail
          go_quiet (fail)
          go_wp2_with fail
          go_roundw
          case rel => exact ⟨k + 1, by go_num, by omega, HS, _, rfl⟩
          case measure => simp [intOf]; omega
      · have hke : k + 1 = S.length := by omega
        have HR := Lib.hid (show descB S = true by unfold descB; rw [← hke]; exact hd.out)
        clear hke
        go_wp2_with (go_at_call 87; refine (impl_sumOf_c _ _ _ S _ rfl hm ((hr.boxed _).drewN _) hz).mono ?_; rintro e w' ⟨rfl, rfl⟩)
        go_ret
        exact ⟨ret_bool (by rw [HP.out, HR.out]; rfl), below_drewN (below_box _ _) _⟩
  · cases h5 : inB (S.length : Int) 1 12
    · have HR := Lib.hid (show evB 12 B F G S = false by simp [evB, evM, h5])
      go_enter Try.func66, Try.ntmps66
      go_wp2_with (go_at_call 94; refine (impl_within_c _ _ _ _).mono ?_; rintro e w' ⟨rfl, rfl⟩)
      go_ret
      exact ⟨ret_bool HR.out.symm, below_box _ _⟩
    cases h6 : allIn S 1 1000
    · have HR := Lib.hid (show evB 12 B F G S = false by simp [evB, h6])
      go_enter Try.func66, Try.ntmps66
      go_wp2_with (first
        | (go_at_call 94; refine (impl_within_c _ _ _ _).mono ?_; rintro e w' ⟨rfl, rfl⟩)
        | (go_at_call 95; refine (impl_allWithin_c _ _ _ S _ _ _ rfl hm (hr.boxed _)).mono ?_; rintro e w' ⟨rfl, rfl⟩))
      go_ret
      exact ⟨ret_bool HR.out.symm, below_box _ _⟩
    have HP := Lib.hid (show evB 12 B F G S = (descB S && (sumL S == 1000)) by simp [evB, evM, h1, h2, h3, h4, h5, h6])
    have hlen : 1 ≤ S.length := by have := inB_iff.1 h5; omega
    have hz := Lib.hid (show ∀ x ∈ S, -4000000000 ≤ x ∧ x ≤ 4000000000 from fun x hx => by have := allIn_iff.1 h6 x hx; omega)
    rcases hr.split with h0 | ⟨b, off, rfl, hb, hc⟩
    · omega
    have hc' := Lib.hid (fun (j : Nat) (x : Int) (hx : S[j]? = some x) => ((below_box w (.cells #[.int .i64 12, .int .i64 B, .int .i64 F, .int .i64 G, .slice (some ⟨b, off, none⟩) S.length c] 58)).cell (p := ⟨b, off + j, none⟩) hb).trans (hc.out j x hx))
    go_enter Try.func66, Try.ntmps66
    go_wp2_with (first
      | (go_at_call 94; refine (impl_within_c _ _ _ _).mono ?_; rintro e w' ⟨rfl, rfl⟩)
      | (go_at_call 95; refine (impl_allWithin_c _ _ _ S _ _ _ rfl hm (hr.boxed _)).mono ?_; rintro e w' ⟨rfl, rfl⟩))
    go_loopw [3] (fun i wr => ∃ k : Nat, i = .int .i64 (k + 1 : Nat) ∧ k + 1 ≤ S.length ∧ Hid (descTo S (k + 1) = true) ∧ ∃ q, wr = (w.alloc (.cells #[.int .i64 12, .int .i64 B, .int .i64 F, .int .i64 G, .slice (some ⟨b, off, none⟩) S.length c] 58)).drewN q) (fun i _ => S.length - (intOf i).toNat)
    case atStart => exact ⟨0, rfl, hlen, Lib.hid (by simp [descTo]), 0, rfl⟩
    case round =>
      obtain ⟨k, rfl, hk, hd, q, rfl⟩ := hrel
      by_cases hlt : k + 1 < S.length
      · obtain ⟨x, hx⟩ := get_some hlt
        obtain ⟨y, hy⟩ := get_some (zs := S) (k := k) (by omega)
        have hcx := hc.out (k + 1) x hx
        have hcy := hc.out k y hy
        have e0 : IntKind.i64.wrap (((k + 1 : Nat) : Int) - 1) = (k : Int) := by rw [IntKind.wrap_i64]; omega
        have HX := Lib.hid hx
        have HY := Lib.hid hy
        clear hx hy
        have b1 : ((k + 1 : Nat) : Int) < (S.length : Int) := by omega
        have b2 : (0 : Int) ≤ ((k + 1 : Nat) : Int) := by omega
        have b3 : (k : Int) < (S.length : Int) := by omega
        have b4 : (0 : Int) ≤ (k : Int) := by omega
        by_cases hxy : y < x
        · have HR := Lib.hid (desc_bad (k := k + 1) (by omega) HX.out HY.out hxy)
          go_wp2_with fail
          go_quiet (fail)
          go_wp2_with fail
          go_ret
          exact ⟨ret_bool (by rw [HP.out, HR.out]; rfl), below_drewN (below_drewN (below_box _ _) _) _⟩
        · have HS := Lib.hid (desc_step hd.out (.inr (by omega)) HX.out (fun _ => HY.out) (fun _ => by omega))
          go_wp2_with fail
          go_quiet (fail)
          go_wp2_with fail
          go_roundw
          case rel => exact ⟨k + 1, by go_num, by omega, HS, _, rfl⟩
          case measure => simp [intOf]; omega
      · have hke : k + 1 = S.length := by omega
        have HR := Lib.hid (show descB S = true by unfold descB; rw [← hke]; exact hd.out)
        clear hke
        go_wp2_with (go_at_call 87; refine (impl_sumOf_c _ _ _ S _ rfl hm ((hr.boxed _).drewN _) hz).mono ?_; rintro e w' ⟨rfl, rfl⟩)
        go_ret
        exact ⟨ret_bool (by rw [HP.out, HR.out]; rfl), below_drewN (below_box _ _) _⟩
  · have hN' : ¬ N < 12 := by omega
    cases h5 : inB (S.length : Int) 1 12
    · have HR := Lib.hid (show evB N B F G S = false by simp [evB, evM, hN', h5])
      go_enter Try.func66, Try.ntmps66
      go_wp2_with (go_at_call 94; refine (impl_within_c _ _ _ _).mono ?_; rintro e w' ⟨rfl, rfl⟩)
      go_ret
      exact ⟨ret_bool HR.out.symm, below_box _ _⟩
    cases h6 : allIn S 1 1000
    · have HR := Lib.hid (show evB N B F G S = false by simp [evB, h6])
      go_enter Try.func66, Try.ntmps66
      go_wp2_with (first
        | (go_at_call 94; refine (impl_within_c _ _ _ _).mono ?_; rintro e w' ⟨rfl, rfl⟩)
        | (go_at_call 95; refine (impl_allWithin_c _ _ _ S _ _ _ rfl hm (hr.boxed _)).mono ?_; rintro e w' ⟨rfl, rfl⟩))
      go_ret
      exact ⟨ret_bool HR.out.symm, below_box _ _⟩
    have HP := Lib.hid (show evB N B F G S = (descB S && (sumL S == 1000)) by simp [evB, evM, h1, h2, h3, h4, hN', h5, h6])
    have hlen : 1 ≤ S.length := by have := inB_iff.1 h5; omega
    have hz := Lib.hid (show ∀ x ∈ S, -4000000000 ≤ x ∧ x ≤ 4000000000 from fun x hx => by have := allIn_iff.1 h6 x hx; omega)
    rcases hr.split with h0 | ⟨b, off, rfl, hb, hc⟩
    · omega
    have hc' := Lib.hid (fun (j : Nat) (x : Int) (hx : S[j]? = some x) => ((below_box w (.cells #[.int .i64 N, .int .i64 B, .int .i64 F, .int .i64 G, .slice (some ⟨b, off, none⟩) S.length c] 58)).cell (p := ⟨b, off + j, none⟩) hb).trans (hc.out j x hx))
    go_enter Try.func66, Try.ntmps66
    go_wp2_with (first
      | (go_at_call 94; refine (impl_within_c _ _ _ _).mono ?_; rintro e w' ⟨rfl, rfl⟩)
      | (go_at_call 95; refine (impl_allWithin_c _ _ _ S _ _ _ rfl hm (hr.boxed _)).mono ?_; rintro e w' ⟨rfl, rfl⟩))
    go_loopw [3] (fun i wr => ∃ k : Nat, i = .int .i64 (k + 1 : Nat) ∧ k + 1 ≤ S.length ∧ Hid (descTo S (k + 1) = true) ∧ ∃ q, wr = (w.alloc (.cells #[.int .i64 N, .int .i64 B, .int .i64 F, .int .i64 G, .slice (some ⟨b, off, none⟩) S.length c] 58)).drewN q) (fun i _ => S.length - (intOf i).toNat)
    case atStart => exact ⟨0, rfl, hlen, Lib.hid (by simp [descTo]), 0, rfl⟩
    case round =>
      obtain ⟨k, rfl, hk, hd, q, rfl⟩ := hrel
      by_cases hlt : k + 1 < S.length
      · obtain ⟨x, hx⟩ := get_some hlt
        obtain ⟨y, hy⟩ := get_some (zs := S) (k := k) (by omega)
        have hcx := hc.out (k + 1) x hx
        have hcy := hc.out k y hy
        have e0 : IntKind.i64.wrap (((k + 1 : Nat) : Int) - 1) = (k : Int) := by rw [IntKind.wrap_i64]; omega
        have HX := Lib.hid hx
        have HY := Lib.hid hy
        clear hx hy
        have b1 : ((k + 1 : Nat) : Int) < (S.length : Int) := by omega
        have b2 : (0 : Int) ≤ ((k + 1 : Nat) : Int) := by omega
        have b3 : (k : Int) < (S.length : Int) := by omega
        have b4 : (0 : Int) ≤ (k : Int) := by omega
        by_cases hxy : y < x
        · have HR := Lib.hid (desc_bad (k := k + 1) (by omega) HX.out HY.out hxy)
          go_wp2_with fail
          go_quiet (fail)
          go_wp2_with fail
          go_ret
          exact ⟨ret_bool (by rw [HP.out, HR.out]; rfl), below_drewN (below_drewN (below_box _ _) _) _⟩
        · have HS := Lib.hid (desc_step hd.out (.inr (by omega)) HX.out (fun _ => HY.out) (fun _ => by omega))
          go_wp2_with fail
          go_quiet (fail)
          go_wp2_with fail
          go_roundw
          case rel => exact ⟨k + 1, by go_num, by omega, HS, _, rfl⟩
          case measure => simp [intOf]; omega
      · have hke : k + 1 = S.length := by omega
        have HR := Lib.hid (show descB S = true by unfold descB; rw [← hke]; exact hd.out)
        clear hke
        go_wp2_with (go_at_call 87; refine (impl_sumOf_c _ _ _ S _ rfl hm ((hr.boxed _).drewN _) hz).mono ?_; rintro e w' ⟨rfl, rfl⟩)
        go_ret
        exact ⟨ret_bool (by rw [HP.out, HR.out]; rfl), below_drewN (below_box _ _) _⟩
set_option maxHeartbeats 2000000 in
theorem spec_IsEvent_c (N B F G : Int) (A : Option Addr) (n c : Nat) (S : List Int) (w : World) (hn : S.length = n) (hm : n ≤ 1048576) (hr : RI w A S) :
    Calls Try.prog 109 #[.agg #[.int .i64 N, .int .i64 B, .int .i64 F, .int .i64 G, .slice A n c]] w fun e w' => e = .returned (.bool (evB N B F G S)) ∧ Below w.heap.size w w' := by
  subst hn
  cases h1 : inB N 2 60
  · have HR := Lib.hid (show evB N B F G S = false by simp [evB, h1])
    go_enter Try.func109, Try.ntmps109
    go_wp2_with (go_at_call 98; refine (spec_l01In_c _ _ _ _).mono ?_; rintro e w' ⟨rfl, rfl⟩)
    go_ret
    exact ⟨ret_bool HR.out.symm, below_box _ _⟩
  cases h2 : inB B 0 1000
  · have HR := Lib.hid (show evB N B F G S = false by simp [evB, h2])
    go_enter Try.func109, Try.ntmps109
    go_wp2_with (go_at_call 98; refine (spec_l01In_c _ _ _ _).mono ?_; rintro e w' ⟨rfl, rfl⟩)
    go_ret
    exact ⟨ret_bool HR.out.symm, below_box _ _⟩
  cases h3 : inB F 0 1000
  · have HR := Lib.hid (show evB N B F G S = false by simp [evB, h3])
    go_enter Try.func109, Try.ntmps109
    go_wp2_with (go_at_call 98; refine (spec_l01In_c _ _ _ _).mono ?_; rintro e w' ⟨rfl, rfl⟩)
    go_ret
    exact ⟨ret_bool HR.out.symm, below_box _ _⟩
  cases h4 : inB G 0 1000000
  · have HR := Lib.hid (show evB N B F G S = false by simp [evB, h4])
    go_enter Try.func109, Try.ntmps109
    go_wp2_with (go_at_call 98; refine (spec_l01In_c _ _ _ _).mono ?_; rintro e w' ⟨rfl, rfl⟩)
    go_ret
    exact ⟨ret_bool HR.out.symm, below_box _ _⟩
  rcases Int.lt_trichotomy N 12 with hN | rfl | hN
  · rcases hr.split with h0 | ⟨b, off, rfl, hb, hc⟩
    all_goals
      go_enter Try.func109, Try.ntmps109
      go_wp2_with (go_at_call 98; refine (spec_l01In_c _ _ _ _).mono ?_; rintro e w' ⟨rfl, rfl⟩)
      go_loopw [3] (fun i wr => ∃ k : Nat, i = .int .i64 k ∧ k ≤ S.length ∧ Hid (descTo S k = true) ∧ Hid ((S.take k).all (fun x => inB x 1 1000) = true) ∧ ∃ q, wr = (w.alloc (.cells #[.int .i64 N, .int .i64 B, .int .i64 F, .int .i64 G, .slice _ S.length c] 58)).drewN q) (fun i _ => S.length - (intOf i).toNat)
      case atStart => exact ⟨0, rfl, Nat.zero_le _, Lib.hid rfl, Lib.hid (by simp), 0, rfl⟩
      case round =>
        obtain ⟨k, rfl, hk, hd, ha, q, rfl⟩ := hrel
        by_cases hlt : k < S.length
        · first
            | (exfalso; omega; done)
            | (obtain ⟨x, hx⟩ := get_some hlt
               have hcx := hc.out k x hx
               have HX := Lib.hid hx
               clear hx
               have b1 : (k : Int) < (S.length : Int) := by omega
               have b2 : (0 : Int) ≤ (k : Int) := by omega
               cases hs : inB x 1 1000
               · have hf := allB_fail (p := fun x => inB x 1 1000) HX.out hs
                 have HR := Lib.hid (show evB N B F G S = false by unfold evB allIn; rw [hf]; simp)
                 clear hf
                 go_wp2_with fail
                 go_quiet ((first | (go_at_call 98; exact quiet_left (spec_l01In_c _ _ _ _)) | (go_at_call 98; exact quiet_add_left (spec_l01In_c _ _ _ _))))
                 go_wp2_with fail
                 go_ret
                 exact ⟨ret_bool HR.out.symm, below_drewN (below_drewN (below_box _ _) _) _⟩
               · have HA := Lib.hid (show (S.take (k + 1)).all (fun x => inB x 1 1000) = true by rw [allB_step HX.out, ha.out, hs]; rfl)
                 by_cases hk0 : 0 < k
                 · obtain ⟨y, hy⟩ := get_some (zs := S) (k := k - 1) (by omega)
                   have hcy := hc.out (k - 1) y hy
                   have e0 : IntKind.i64.wrap ((k : Int) - 1) = ((k - 1 : Nat) : Int) := by rw [IntKind.wrap_i64]; omega
                   have b3 : ((k - 1 : Nat) : Int) < (S.length : Int) := by omega
                   have b4 : (0 : Int) ≤ ((k - 1 : Nat) : Int) := by omega
                   have b5 : decide ((0 : Int) < (k : Int)) = true := by simp; omega
                   have HY := Lib.hid hy
                   clear hy
                   by_cases hxy : y < x
                   · have hb := desc_bad hk0 HX.out HY.out hxy
                     have HR := Lib.hid (show evB N B F G S = false by unfold evB; rw [hb]; simp)
                     clear hb
                     go_wp2_with fail
                     go_quiet ((first | (go_at_call 98; exact quiet_left (spec_l01In_c _ _ _ _)) | (go_at_call 98; exact quiet_add_left (spec_l01In_c _ _ _ _))))
                     go_wp2_with fail
                     go_ret
                     exact ⟨ret_bool HR.out.symm, below_drewN (below_drewN (below_box _ _) _) _⟩
                   · have HS := Lib.hid (desc_step hd.out (.inr hk0) HX.out (fun _ => HY.out) (fun _ => by omega))
                     go_wp2_with fail
                     go_quiet ((first | (go_at_call 98; exact quiet_left (spec_l01In_c _ _ _ _)) | (go_at_call 98; exact quiet_add_left (spec_l01In_c _ _ _ _))))
                     go_wp2_with fail
                     go_roundw
                     case rel => exact ⟨k + 1, by go_num, by omega, HS, HA, _, rfl⟩
                     case measure => simp [intOf]; omega
                 · have b5 : decide ((0 : Int) < (k : Int)) = false := by simp; omega
                   have HS := Lib.hid (desc_step (x := x) (y := 0) hd.out (.inl (by omega)) HX.out (fun h => absurd h hk0) (fun h => absurd h hk0))
                   go_wp2_with fail
                   go_quiet ((first | (go_at_call 98; exact quiet_left (spec_l01In_c _ _ _ _)) | (go_at_call 98; exact quiet_add_left (spec_l01In_c _ _ _ _))))
                   go_wp2_with fail
                   go_roundw
                   case rel => exact ⟨k + 1, by go_num, by omega, HS, HA, _, rfl⟩
                   case measure => simp [intOf]; omega)
        · have hke : k = S.length := by omega
          have hd2 : descB S = true := by unfold descB; rw [← hke]; exact hd.out
          have hd3 : allIn S 1 1000 = true := allB_done (p := fun x => inB x 1 1000) hlt ha.out
          have hz := Lib.hid (show ∀ x ∈ S, -4000000000 ≤ x ∧ x ≤ 4000000000 from fun x hx => by have := allIn_iff.1 hd3 x hx; omega)
          clear hke
          cases h5 : inB (S.length : Int) 1 N
          · have HR := Lib.hid (show evB N B F G S = false by simp [evB, evM, hN, h5])
            clear hd2 hd3
            go_wp2_with (go_at_call 98; refine (spec_l01In_c _ _ _ _).mono ?_; rintro e w' ⟨rfl, rfl⟩)
            go_ret
            exact ⟨ret_bool HR.out.symm, below_drewN (below_box _ _) _⟩
          · have HR := Lib.hid (show evB N B F G S = (sumL S == 1000) by simp [evB, evM, hN, h1, h2, h3, h4, h5, hd2, hd3])
            clear hd2 hd3
            go_wp2_with (first
              | (go_at_call 98; refine (spec_l01In_c _ _ _ _).mono ?_; rintro e w' ⟨rfl, rfl⟩)
              | (go_at_call 84; refine (spec_l01Sum_c _ _ _ S _ rfl hm ((hr.boxed _).drewN _) hz).mono ?_; rintro e w' ⟨rfl, rfl⟩))
            go_ret
            exact ⟨ret_bool HR.out.symm, below_drewN (below_box _ _) _⟩
  · rcases hr.split with h0 | ⟨b, off, rfl, hb, hc⟩
    all_goals
      go_enter Try.func109, Try.ntmps109
      go_wp2_with (go_at_call 98; refine (spec_l01In_c _ _ _ _).mono ?_; rintro e w' ⟨rfl, rfl⟩)
      go_loopw [3] (fun i wr => ∃ k : Nat, i = .int .i64 k ∧ k ≤ S.length ∧ Hid (descTo S k = true) ∧ Hid ((S.take k).all (fun x => inB x 1 1000) = true) ∧ ∃ q, wr = (w.alloc (.cells #[.int .i64 12, .int .i64 B, .int .i64 F, .int .i64 G, .slice _ S.length c] 58)).drewN q) (fun i _ => S.length - (intOf i).toNat)
      case atStart => exact ⟨0, rfl, Nat.zero_le _, Lib.hid rfl, Lib.hid (by simp), 0, rfl⟩
      case round =>
        obtain ⟨k, rfl, hk, hd, ha, q, rfl⟩ := hrel
        by_cases hlt : k < S.length
        · first
            | (exfalso; omega; done)
            | (obtain ⟨x, hx⟩ := get_some hlt
               have hcx := hc.out k x hx
               have HX := Lib.hid hx
               clear hx
               have b1 : (k : Int) < (S.length : Int) := by omega
               have b2 : (0 : Int) ≤ (k : Int) := by omega
               cases hs : inB x 1 1000
               · have hf := allB_fail (p := fun x => inB x 1 1000) HX.out hs
                 have HR := Lib.hid (show evB 12 B F G S = false by unfold evB allIn; rw [hf]; simp)
                 clear hf
                 go_wp2_with fail
                 go_quiet ((first | (go_at_call 98; exact quiet_left (spec_l01In_c _ _ _ _)) | (go_at_call 98; exact quiet_add_left (spec_l01In_c _ _ _ _))))
                 go_wp2_with fail
                 go_ret
                 exact ⟨ret_bool HR.out.symm, below_drewN (below_drewN (below_box _ _) _) _⟩
               · have HA := Lib.hid (show (S.take (k + 1)).all (fun x => inB x 1 1000) = true by rw [allB_step HX.out, ha.out, hs]; rfl)
                 by_cases hk0 : 0 < k
                 · obtain ⟨y, hy⟩ := get_some (zs := S) (k := k - 1) (by omega)
                   have hcy := hc.out (k - 1) y hy
                   have e0 : IntKind.i64.wrap ((k : Int) - 1) = ((k - 1 : Nat) : Int) := by rw [IntKind.wrap_i64]; omega
                   have b3 : ((k - 1 : Nat) : Int) < (S.length : Int) := by omega
                   have b4 : (0 : Int) ≤ ((k - 1 : Nat) : Int) := by omega
                   have b5 : decide ((0 : Int) < (k : Int)) = true := by simp; omega
                   have HY := Lib.hid hy
                   clear hy
                   by_cases hxy : y < x
                   · have hb := desc_bad hk0 HX.out HY.out hxy
                     have HR := Lib.hid (show evB 12 B F G S = false by unfold evB; rw [hb]; simp)
                     clear hb
                     go_wp2_with fail
                     go_quiet ((first | (go_at_call 98; exact quiet_left (spec_l01In_c _ _ _ _)) | (go_at_call 98; exact quiet_add_left (spec_l01In_c _ _ _ _))))
                     go_wp2_with fail
                     go_ret
                     exact ⟨ret_bool HR.out.symm, below_drewN (below_drewN (below_box _ _) _) _⟩
                   · have HS := Lib.hid (desc_step hd.out (.inr hk0) HX.out (fun _ => HY.out) (fun _ => by omega))
                     go_wp2_with fail
                     go_quiet ((first | (go_at_call 98; exact quiet_left (spec_l01In_c _ _ _ _)) | (go_at_call 98; exact quiet_add_left (spec_l01In_c _ _ _ _))))
                     go_wp2_with fail
                     go_roundw
                     case rel => exact ⟨k + 1, by go_num, by omega, HS, HA, _, rfl⟩
                     case measure => simp [intOf]; omega
                 · have b5 : decide ((0 : Int) < (k : Int)) = false := by simp; omega
                   have HS := Lib.hid (desc_step (x := x) (y := 0) hd.out (.inl (by omega)) HX.out (fun h => absurd h hk0) (fun h => absurd h hk0))
                   go_wp2_with fail
                   go_quiet ((first | (go_at_call 98; exact quiet_left (spec_l01In_c _ _ _ _)) | (go_at_call 98; exact quiet_add_left (spec_l01In_c _ _ _ _))))
                   go_wp2_with fail
                   go_roundw
                   case rel => exact ⟨k + 1, by go_num, by omega, HS, HA, _, rfl⟩
                   case measure => simp [intOf]; omega)
        · have hke : k = S.length := by omega
          have hd2 : descB S = true := by unfold descB; rw [← hke]; exact hd.out
          have hd3 : allIn S 1 1000 = true := allB_done (p := fun x => inB x 1 1000) hlt ha.out
          have hz := Lib.hid (show ∀ x ∈ S, -4000000000 ≤ x ∧ x ≤ 4000000000 from fun x hx => by have := allIn_iff.1 hd3 x hx; omega)
          clear hke
          cases h5 : inB (S.length : Int) 1 12
          · have HR := Lib.hid (show evB 12 B F G S = false by simp [evB, evM, h5])
            clear hd2 hd3
            go_wp2_with (go_at_call 98; refine (spec_l01In_c _ _ _ _).mono ?_; rintro e w' ⟨rfl, rfl⟩)
            go_ret
            exact ⟨ret_bool HR.out.symm, below_drewN (below_box _ _) _⟩
          · have HR := Lib.hid (show evB 12 B F G S = (sumL S == 1000) by simp [evB, evM, h1, h2, h3, h4, h5, hd2, hd3])
            clear hd2 hd3
            go_wp2_with (first
              | (go_at_call 98; refine (spec_l01In_c _ _ _ _).mono ?_; rintro e w' ⟨rfl, rfl⟩)
              | (go_at_call 84; refine (spec_l01Sum_c _ _ _ S _ rfl hm ((hr.boxed _).drewN _) hz).mono ?_; rintro e w' ⟨rfl, rfl⟩))
            go_ret
            exact ⟨ret_bool HR.out.symm, below_drewN (below_box _ _) _⟩
  · have hN' : ¬ N < 12 := by omega
    rcases hr.split with h0 | ⟨b, off, rfl, hb, hc⟩
    all_goals
      go_enter Try.func109, Try.ntmps109
      go_wp2_with (go_at_call 98; refine (spec_l01In_c _ _ _ _).mono ?_; rintro e w' ⟨rfl, rfl⟩)
      go_loopw [3] (fun i wr => ∃ k : Nat, i = .int .i64 k ∧ k ≤ S.length ∧ Hid (descTo S k = true) ∧ Hid ((S.take k).all (fun x => inB x 1 1000) = true) ∧ ∃ q, wr = (w.alloc (.cells #[.int .i64 N, .int .i64 B, .int .i64 F, .int .i64 G, .slice _ S.length c] 58)).drewN q) (fun i _ => S.length - (intOf i).toNat)
      case atStart => exact ⟨0, rfl, Nat.zero_le _, Lib.hid rfl, Lib.hid (by simp), 0, rfl⟩
      case round =>
        obtain ⟨k, rfl, hk, hd, ha, q, rfl⟩ := hrel
        by_cases hlt : k < S.length
        · first
            | (exfalso; omega; done)
            | (obtain ⟨x, hx⟩ := get_some hlt
               have hcx := hc.out k x hx
               have HX := Lib.hid hx
               clear hx
               have b1 : (k : Int) < (S.length : Int) := by omega
               have b2 : (0 : Int) ≤ (k : Int) := by omega
               cases hs : inB x 1 1000
               · have hf := allB_fail (p := fun x => inB x 1 1000) HX.out hs
                 have HR := Lib.hid (show evB N B F G S = false by unfold evB allIn; rw [hf]; simp)
                 clear hf
                 go_wp2_with fail
                 go_quiet ((first | (go_at_call 98; exact quiet_left (spec_l01In_c _ _ _ _)) | (go_at_call 98; exact quiet_add_left (spec_l01In_c _ _ _ _))))
                 go_wp2_with fail
                 go_ret
                 exact ⟨ret_bool HR.out.symm, below_drewN (below_drewN (below_box _ _) _) _⟩
               · have HA := Lib.hid (show (S.take (k + 1)).all (fun x => inB x 1 1000) = true by rw [allB_step HX.out, ha.out, hs]; rfl)
                 by_cases hk0 : 0 < k
                 · obtain ⟨y, hy⟩ := get_some (zs := S) (k := k - 1) (by omega)
                   have hcy := hc.out (k - 1) y hy
                   have e0 : IntKind.i64.wrap ((k : Int) - 1) = ((k - 1 : Nat) : Int) := by rw [IntKind.wrap_i64]; omega
                   have b3 : ((k - 1 : Nat) : Int) < (S.length : Int) := by omega
                   have b4 : (0 : Int) ≤ ((k - 1 : Nat) : Int) := by omega
                   have b5 : decide ((0 : Int) < (k : Int)) = true := by simp; omega
                   have HY := Lib.hid hy
                   clear hy
                   by_cases hxy : y < x
                   · have hb := desc_bad hk0 HX.out HY.out hxy
                     have HR := Lib.hid (show evB N B F G S = false by unfold evB; rw [hb]; simp)
                     clear hb
                     go_wp2_with fail
                     go_quiet ((first | (go_at_call 98; exact quiet_left (spec_l01In_c _ _ _ _)) | (go_at_call 98; exact quiet_add_left (spec_l01In_c _ _ _ _))))
                     go_wp2_with fail
                     go_ret
                     exact ⟨ret_bool HR.out.symm, below_drewN (below_drewN (below_box _ _) _) _⟩
                   · have HS := Lib.hid (desc_step hd.out (.inr hk0) HX.out (fun _ => HY.out) (fun _ => by omega))
                     go_wp2_with fail
                     go_quiet ((first | (go_at_call 98; exact quiet_left (spec_l01In_c _ _ _ _)) | (go_at_call 98; exact quiet_add_left (spec_l01In_c _ _ _ _))))
                     go_wp2_with fail
                     go_roundw
                     case rel => exact ⟨k + 1, by go_num, by omega, HS, HA, _, rfl⟩
                     case measure => simp [intOf]; omega
                 · have b5 : decide ((0 : Int) < (k : Int)) = false := by simp; omega
                   have HS := Lib.hid (desc_step (x := x) (y := 0) hd.out (.inl (by omega)) HX.out (fun h => absurd h hk0) (fun h => absurd h hk0))
                   go_wp2_with fail
                   go_quiet ((first | (go_at_call 98; exact quiet_left (spec_l01In_c _ _ _ _)) | (go_at_call 98; exact quiet_add_left (spec_l01In_c _ _ _ _))))
                   go_wp2_with fail
                   go_roundw
                   case rel => exact ⟨k + 1, by go_num, by omega, HS, HA, _, rfl⟩
                   case measure => simp [intOf]; omega)
        · have hke : k = S.length := by omega
          have hd2 : descB S = true := by unfold descB; rw [← hke]; exact hd.out
          have hd3 : allIn S 1 1000 = true := allB_done (p := fun x => inB x 1 1000) hlt ha.out
          have hz := Lib.hid (show ∀ x ∈ S, -4000000000 ≤ x ∧ x ≤ 4000000000 from fun x hx => by have := allIn_iff.1 hd3 x hx; omega)
          clear hke
          cases h5 : inB (S.length : Int) 1 12
          · have HR := Lib.hid (show evB N B F G S = false by simp [evB, evM, (show ¬ N < 12 by omega), h5])
            clear hd2 hd3
            go_wp2_with (go_at_call 98; refine (spec_l01In_c _ _ _ _).mono ?_; rintro e w' ⟨rfl, rfl⟩)
            go_ret
            exact ⟨ret_bool HR.out.symm, below_drewN (below_box _ _) _⟩
          · have HR := Lib.hid (show evB N B F G S = (sumL S == 1000) by simp [evB, evM, (show ¬ N < 12 by omega), h1, h2, h3, h4, h5, hd2, hd3])
            clear hd2 hd3
            go_wp2_with (first
              | (go_at_call 98; refine (spec_l01In_c _ _ _ _).mono ?_; rintro e w' ⟨rfl, rfl⟩)
              | (go_at_call 84; refine (spec_l01Sum_c _ _ _ S _ rfl hm ((hr.boxed _).drewN _) hz).mono ?_; rintro e w' ⟨rfl, rfl⟩))
            go_ret
            exact ⟨ret_bool HR.out.symm, below_drewN (below_box _ _) _⟩
end Go.Proofs.Ythpgkngkmmameaa
