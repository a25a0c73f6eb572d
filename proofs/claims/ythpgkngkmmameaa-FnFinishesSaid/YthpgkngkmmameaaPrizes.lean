/-
  The contracts of ArePrizes. Conditions: at most 1048576 elements each.
-/
import Derived.Test.YthpgkngkmmameaaField
import Derived.Test.YthpgkngkmmameaaQuiet
namespace Go.Proofs.Ythpgkngkmmameaa
open Go.RowKit
set_option linter.unusedVariables false

theorem drew_two (w : World) (q n : Nat) : ∃ r, (w.drewN q).drewN n = w.drewN r := ⟨q + n, by rw [World.drewN_drewN]⟩
def prizesB (zs ys : List Int) : Bool := fieldB zs && inB (ys.length : Int) 1 zs.length && allIn ys 0 100000 && descB ys
theorem prizesB_iff {zs ys : List Int} : prizesB zs ys = true ↔ fieldB zs = true ∧ 1 ≤ ys.length ∧ ys.length ≤ zs.length ∧ (∀ x ∈ ys, 0 ≤ x ∧ x ≤ 100000) ∧ descB ys = true := by
  unfold prizesB
  rw [Bool.and_eq_true, Bool.and_eq_true, Bool.and_eq_true, allIn_iff, inB_iff]
  constructor
  · rintro ⟨⟨⟨a, b⟩, c⟩, d⟩; exact ⟨a, by omega, by omega, c, d⟩
  · rintro ⟨a, b, b', c, d⟩; exact ⟨⟨⟨a, by omega, by omega⟩, c⟩, d⟩
set_option maxHeartbeats 1000000 in
theorem impl_ArePrizes_c (A B : Option Addr) (n c m d : Nat) (zs ys : List Int) (w : World) (hn : zs.length = n) (hm : n ≤ 1048576) (hr : RI w A zs) (hn' : ys.length = m) (hm' : m ≤ 1048576) (hr' : RI w B ys) :
    Calls Try.prog 103 #[.slice A n c, .slice B m d] w fun e w' => e = .returned (.bool (prizesB zs ys)) ∧ ∃ q, w' = w.drewN q := by
  subst hn
  subst hn'
  cases h1 : fieldB zs
  · have HR := Lib.hid (show prizesB zs ys = false by simp [prizesB, h1])
    go_enter Try.func103, Try.ntmps103
    go_wp2_with (go_at_call 156; refine (impl_IsField_c _ _ _ zs _ rfl hm hr).mono ?_; rintro e w' ⟨rfl, rfl⟩)
    go_ret
    exact ⟨ret_bool HR.out.symm, 0, rfl⟩
  cases h2 : inB (ys.length : Int) 1 zs.length
  · have HR := Lib.hid (show prizesB zs ys = false by simp [prizesB, h2])
    go_enter Try.func103, Try.ntmps103
    go_wp2_with (first
      | (go_at_call 156; refine (impl_IsField_c _ _ _ zs _ rfl hm hr).mono ?_; rintro e w' ⟨rfl, rfl⟩)
      | (go_at_call 94; refine (impl_within_c _ _ _ _).mono ?_; rintro e w' ⟨rfl, rfl⟩))
    go_ret
    exact ⟨ret_bool HR.out.symm, 0, rfl⟩
  cases h3 : allIn ys 0 100000
  · have HR := Lib.hid (show prizesB zs ys = false by simp [prizesB, h3])
    go_enter Try.func103, Try.ntmps103
    go_wp2_with (first
      | (go_at_call 156; refine (impl_IsField_c _ _ _ zs _ rfl hm hr).mono ?_; rintro e w' ⟨rfl, rfl⟩)
      | (go_at_call 94; refine (impl_within_c _ _ _ _).mono ?_; rintro e w' ⟨rfl, rfl⟩)
      | (go_at_call 95; refine (impl_allWithin_c _ _ _ ys _ _ _ rfl hm' hr').mono ?_; rintro e w' ⟨rfl, rfl⟩))
    go_ret
    exact ⟨ret_bool HR.out.symm, 0, rfl⟩
  have hlen : 1 ≤ ys.length := by have := inB_iff.1 h2; omega
  have HP := Lib.hid (show prizesB zs ys = descB ys by simp [prizesB, h1, h2, h3])
  rcases hr'.split with h0 | ⟨b, off, rfl, hb, hc⟩
  · omega
  go_enter Try.func103, Try.ntmps103
  go_wp2_with (first
      | (go_at_call 156; refine (impl_IsField_c _ _ _ zs _ rfl hm hr).mono ?_; rintro e w' ⟨rfl, rfl⟩)
      | (go_at_call 94; refine (impl_within_c _ _ _ _).mono ?_; rintro e w' ⟨rfl, rfl⟩)
      | (go_at_call 95; refine (impl_allWithin_c _ _ _ ys _ _ _ rfl hm' hr').mono ?_; rintro e w' ⟨rfl, rfl⟩))
  go_loopw [5] (fun i wr => ∃ k : Nat, i = .int .i64 (k + 1 : Nat) ∧ k + 1 ≤ ys.length ∧ Hid (descTo ys (k + 1) = true) ∧ ∃ q, wr = w.drewN q) (fun i _ => ys.length - (intOf i).toNat)
  case atStart => exact ⟨0, rfl, hlen, Lib.hid (by simp [descTo]), 0, rfl⟩
  case round =>
    obtain ⟨k, rfl, hk, hd, q, rfl⟩ := hrel
    by_cases hlt : k + 1 < ys.length
    · obtain ⟨x, hx⟩ := get_some hlt
      obtain ⟨y, hy⟩ := get_some (zs := ys) (k := k) (by omega)
      have hcx := hc.out (k + 1) x hx
      have hcy := hc.out k y hy
      have e0 : IntKind.i64.wrap (((k + 1 : Nat) : Int) - 1) = (k : Int) := by rw [IntKind.wrap_i64]; omega
      have HX := Lib.hid hx
      have HY := Lib.hid hy
      clear hx hy
      have b1 : ((k + 1 : Nat) : Int) < (ys.length : Int) := by omega
      have b2 : (0 : Int) ≤ ((k + 1 : Nat) : Int) := by omega
      have b3 : (k : Int) < (ys.length : Int) := by omega
      have b4 : (0 : Int) ≤ (k : Int) := by omega
      by_cases hxy : y < x
      · have HR := Lib.hid (desc_bad (k := k + 1) (by omega) HX.out HY.out hxy)
        go_wp2_with fail
        go_quiet (fail)
        go_wp2_with fail
        go_ret
        exact ⟨ret_bool (by rw [HP.out, HR.out]), drew_two _ _ _⟩
      · have HS := Lib.hid (desc_step hd.out (.inr (by omega)) HX.out (fun _ => HY.out) (fun _ => by omega))
        go_wp2_with fail
        go_quiet (fail)
        go_wp2_with fail
        go_roundw
        case rel => exact ⟨k + 1, by go_num, by omega, HS, _, rfl⟩
        case measure => simp [intOf]; omega
    · have hke : k + 1 = ys.length := by omega
      have HR := Lib.hid (show descB ys = true by unfold descB; rw [← hke]; exact hd.out)
      clear hke
      go_wp2_with fail
      go_ret
      exact ⟨ret_bool (by rw [HP.out, HR.out]), _, rfl⟩
set_option maxHeartbeats 1000000 in
theorem spec_ArePrizes_c (A B : Option Addr) (n c m d : Nat) (zs ys : List Int) (w : World) (hn : zs.length = n) (hm : n ≤ 1048576) (hr : RI w A zs) (hn' : ys.length = m) (hm' : m ≤ 1048576) (hr' : RI w B ys) :
    Calls Try.prog 104 #[.slice A n c, .slice B m d] w fun e w' => e = .returned (.bool (prizesB zs ys)) ∧ ∃ q, w' = w.drewN q := by
  subst hn
  subst hn'
  rcases hr'.split with h0 | ⟨b, off, rfl, hb, hc⟩
  all_goals
    go_enter Try.func104, Try.ntmps104
    go_wp2_with fail
    go_loopw [5] (fun i wr => ∃ k : Nat, i = .int .i64 k ∧ k ≤ ys.length ∧ Hid (descTo ys k = true) ∧ Hid ((ys.take k).all (fun x => inB x 0 100000) = true) ∧ ∃ q, wr = w.drewN q) (fun i _ => ys.length - (intOf i).toNat)
    case atStart => exact ⟨0, rfl, Nat.zero_le _, Lib.hid rfl, Lib.hid (by simp), 0, rfl⟩
    case round =>
      obtain ⟨k, rfl, hk, hd, ha, q, rfl⟩ := hrel
      by_cases hlt : k < ys.length
      · first
          | (exfalso; omega; done)
          | (obtain ⟨x, hx⟩ := get_some hlt
             have hcx := hc.out k x hx
             have HX := Lib.hid hx
             clear hx
             have b1 : (k : Int) < (ys.length : Int) := by omega
             have b2 : (0 : Int) ≤ (k : Int) := by omega
             cases hs : inB x 0 100000
             · have hf := allB_fail (p := fun x => inB x 0 100000) HX.out hs
               have HR := Lib.hid (show prizesB zs ys = false by unfold prizesB allIn; rw [hf]; simp)
               clear hf
               go_wp2_with fail
               go_quiet ((first | (go_at_call 98; exact quiet_left (spec_l01In_c _ _ _ _)) | (go_at_call 98; exact quiet_add_left (spec_l01In_c _ _ _ _))))
               go_wp2_with fail
               go_ret
               exact ⟨ret_bool HR.out.symm, drew_two _ _ _⟩
             · have HA := Lib.hid (show (ys.take (k + 1)).all (fun x => inB x 0 100000) = true by rw [allB_step HX.out, ha.out, hs]; rfl)
               by_cases hk0 : 0 < k
               · obtain ⟨y, hy⟩ := get_some (zs := ys) (k := k - 1) (by omega)
                 have hcy := hc.out (k - 1) y hy
                 have e0 : IntKind.i64.wrap ((k : Int) - 1) = ((k - 1 : Nat) : Int) := by rw [IntKind.wrap_i64]; omega
                 have b3 : ((k - 1 : Nat) : Int) < (ys.length : Int) := by omega
                 have b4 : (0 : Int) ≤ ((k - 1 : Nat) : Int) := by omega
                 have b5 : decide ((0 : Int) < (k : Int)) = true := by simp; omega
                 have HY := Lib.hid hy
                 clear hy
                 by_cases hxy : y < x
                 · have hb := desc_bad hk0 HX.out HY.out hxy
                   have HR := Lib.hid (show prizesB zs ys = false by unfold prizesB; rw [hb]; simp)
                   clear hb
                   go_wp2_with fail
                   go_quiet ((first | (go_at_call 98; exact quiet_left (spec_l01In_c _ _ _ _)) | (go_at_call 98; exact quiet_add_left (spec_l01In_c _ _ _ _))))
                   go_wp2_with fail
                   go_ret
                   exact ⟨ret_bool HR.out.symm, drew_two _ _ _⟩
                 · have HS := Lib.hid (desc_step hd.out (.inr hk0) HX.out (fun _ => HY.out) (fun _ => by omega))
                   go_wp2_with fail
                   go_quiet ((first | (go_at_call 98; exact quiet_left (spec_l01In_c _ _ _ _)) | (go_at_call 98; exact quiet_add_left (spec_l01In_c _ _ _ _))))
                   go_wp2_with fail
                   go_roundw
                   case rel => exact ⟨k + 1, by go_num, by omega, HS, HA, _, rfl⟩
                   case measure => simp [intOf]; omega
               · have b5 : decide ((0 : Int) < (k : Int)) = false := by simp; omega
                 have HS := Lib.hid (desc_step (x := x) (y := 0) hd.out (.inl (by omega)) HX.out (fun h => absurd h hk0) (fun h => absurd h hk0))
                 go_wp2_with fail
                 go_quiet ((first | (go_at_call 98; exact quiet_left (spec_l01In_c _ _ _ _)) | (go_at_call 98; exact quiet_add_left (spec_l01In_c _ _ _ _))))
                 go_wp2_with fail
                 go_roundw
                 case rel => exact ⟨k + 1, by go_num, by omega, HS, HA, _, rfl⟩
                 case measure => simp [intOf]; omega)
      · have hke : k = ys.length := by omega
        have hd2 : descB ys = true := by unfold descB; rw [← hke]; exact hd.out
        have hd3 := allB_done (p := fun x => inB x 0 100000) hlt ha.out
        clear hke
        cases h1 : fieldB zs
        · have HR := Lib.hid (show prizesB zs ys = false by simp [prizesB, h1])
          clear hd2 hd3
          go_wp2_with (first
            | (go_at_call 157; refine (spec_IsField_c _ _ _ zs _ rfl hm (hr.drewN q)).mono ?_; rintro e w' ⟨rfl, rfl⟩)
            | (go_at_call 98; refine (spec_l01In_c _ _ _ _).mono ?_; rintro e w' ⟨rfl, rfl⟩))
          go_ret
          exact ⟨ret_bool HR.out.symm, _, rfl⟩
        · have HR := Lib.hid (show prizesB zs ys = inB (ys.length : Int) 1 zs.length by unfold prizesB allIn; rw [h1, hd2, hd3]; simp)
          clear hd2 hd3
          go_wp2_with (first
            | (go_at_call 157; refine (spec_IsField_c _ _ _ zs _ rfl hm (hr.drewN q)).mono ?_; rintro e w' ⟨rfl, rfl⟩)
            | (go_at_call 98; refine (spec_l01In_c _ _ _ _).mono ?_; rintro e w' ⟨rfl, rfl⟩))
          go_ret
          exact ⟨ret_bool HR.out.symm, _, rfl⟩
theorem impl_ArePrizes_b (A : Option Addr) (n c : Nat) (zs : List Int) (B : Option Addr) (m d : Nat) (ys : List Int) (w : World) (hn : zs.length = n) (hm : n ≤ 1048576) (hr : RI w A zs) (hn' : ys.length = m) (hm' : m ≤ 1048576) (hr' : RI w B ys) :
    Calls Try.prog 103 #[.slice A n c, .slice B m d] w fun e w' => e = .returned (.bool (prizesB zs ys)) ∧ Below w.heap.size w w' :=
  (impl_ArePrizes_c A B n c m d zs ys w hn hm hr hn' hm' hr').mono fun _ _ ⟨he, q, hq⟩ => ⟨he, by rw [hq]; exact below_drewN (Below.refl _ _) _⟩
theorem spec_ArePrizes_b (A : Option Addr) (n c : Nat) (zs : List Int) (B : Option Addr) (m d : Nat) (ys : List Int) (w : World) (hn : zs.length = n) (hm : n ≤ 1048576) (hr : RI w A zs) (hn' : ys.length = m) (hm' : m ≤ 1048576) (hr' : RI w B ys) :
    Calls Try.prog 104 #[.slice A n c, .slice B m d] w fun e w' => e = .returned (.bool (prizesB zs ys)) ∧ Below w.heap.size w w' :=
  (spec_ArePrizes_c A B n c m d zs ys w hn hm hr hn' hm' hr').mono fun _ _ ⟨he, q, hq⟩ => ⟨he, by rw [hq]; exact below_drewN (Below.refl _ _) _⟩
end Go.Proofs.Ythpgkngkmmameaa
