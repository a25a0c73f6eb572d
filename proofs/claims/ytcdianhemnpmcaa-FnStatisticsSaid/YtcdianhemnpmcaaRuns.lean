/-
  The contracts of ExpectedRuns and GrowthShare. Conditions: at most 1048576 elements.
-/
import Derived.Test.YtcdianhemnpmcaaMean
namespace Go.Proofs.Ytcdianhemnpmcaa
open Go.RowKit
set_option linter.unusedVariables false

structure Runs where
  up : Int
  down : Int
  ups : Int
  downs : Int
def runF (s : Runs) (x : Int) : Runs :=
  if 0 < x then ⟨if s.up < s.ups + 1 then s.ups + 1 else s.up, s.down, s.ups + 1, 0⟩
  else if x < 0 then ⟨s.up, if s.down < s.downs + 1 then s.downs + 1 else s.down, 0, s.downs + 1⟩
  else ⟨s.up, s.down, 0, 0⟩
def runS (zs : List Int) : Runs := zs.foldl runF ⟨0, 0, 0, 0⟩
theorem runS_step {zs : List Int} {k : Nat} {x : Int} (hx : zs[k]? = some x) : runS (zs.take (k + 1)) = runF (runS (zs.take k)) x := by
  unfold runS
  rw [List.take_add_one, hx, List.foldl_append]; rfl
/-- What holds of the four numbers after k elements. -/
def RunRel (zs : List Int) (k : Nat) (a b c d : Int) : Prop := runS (zs.take k) = ⟨a, b, c, d⟩ ∧ 0 ≤ a ∧ a ≤ k ∧ 0 ≤ b ∧ b ≤ k ∧ 0 ≤ c ∧ c ≤ k ∧ 0 ≤ d ∧ d ≤ k
theorem runUp1 {zs : List Int} {k : Nat} {x a b c d : Int} (h : RunRel zs k a b c d) (hx : zs[k]? = some x) (h1 : 0 < x) (h2 : a < c + 1) : RunRel zs (k + 1) (c + 1) b (c + 1) 0 := by
  obtain ⟨e, _⟩ := h
  refine ⟨by rw [runS_step hx, e]; simp only [runF]; rw [if_pos h1, if_pos h2], by omega, by omega, by omega, by omega, by omega, by omega, by omega, by omega⟩
theorem runUp2 {zs : List Int} {k : Nat} {x a b c d : Int} (h : RunRel zs k a b c d) (hx : zs[k]? = some x) (h1 : 0 < x) (h2 : ¬ a < c + 1) : RunRel zs (k + 1) a b (c + 1) 0 := by
  obtain ⟨e, _⟩ := h
  refine ⟨by rw [runS_step hx, e]; simp only [runF]; rw [if_pos h1, if_neg h2], by omega, by omega, by omega, by omega, by omega, by omega, by omega, by omega⟩
theorem runDown1 {zs : List Int} {k : Nat} {x a b c d : Int} (h : RunRel zs k a b c d) (hx : zs[k]? = some x) (h1 : x < 0) (h2 : b < d + 1) : RunRel zs (k + 1) a (d + 1) 0 (d + 1) := by
  obtain ⟨e, _⟩ := h
  refine ⟨by rw [runS_step hx, e]; simp only [runF]; rw [if_neg (by omega), if_pos h1, if_pos h2], by omega, by omega, by omega, by omega, by omega, by omega, by omega, by omega⟩
theorem runDown2 {zs : List Int} {k : Nat} {x a b c d : Int} (h : RunRel zs k a b c d) (hx : zs[k]? = some x) (h1 : x < 0) (h2 : ¬ b < d + 1) : RunRel zs (k + 1) a b 0 (d + 1) := by
  obtain ⟨e, _⟩ := h
  refine ⟨by rw [runS_step hx, e]; simp only [runF]; rw [if_neg (by omega), if_pos h1, if_neg h2], by omega, by omega, by omega, by omega, by omega, by omega, by omega, by omega⟩
theorem runNone {zs : List Int} {k : Nat} {x a b c d : Int} (h : RunRel zs k a b c d) (hx : zs[k]? = some x) (h1 : x = 0) : RunRel zs (k + 1) a b 0 0 := by
  obtain ⟨e, _⟩ := h
  refine ⟨by rw [runS_step hx, e]; simp only [runF]; rw [if_neg (by omega), if_neg (by omega)], by omega, by omega, by omega, by omega, by omega, by omega, by omega, by omega⟩
def runUpV (zs : List Int) : Int := if resB zs = true then (runS zs).up else 0
def runDownV (zs : List Int) : Int := if resB zs = true then (runS zs).down else 0
def runE (zs : List Int) : Int := if resB zs = true then 0 else 1
theorem ret_int3 {k l m : IntKind} {a b c d e f : Int} (h : a = b) (h' : c = d) (h'' : e = f) : Ending.returned (.tuple #[.int k a, .int l c, .int m e]) = .returned (.tuple #[.int k b, .int l d, .int m f]) := by rw [h, h', h'']
theorem impl_ExpectedRuns_c (A : Option Addr) (n c : Nat) (zs : List Int) (w : World) (hn : zs.length = n) (hm : n ≤ 1048576) (hr : RI w A zs) :
    Calls Try.prog 19 #[.slice A n c] w fun e w' => e = .returned (.tuple #[.int .i64 (runUpV zs), .int .i64 (runDownV zs), .int .i64 (runE zs)]) ∧ w = w' := by
  subst hn
  cases h : resB zs
  · have HV := Lib.hid (show runUpV zs = 0 by simp [runUpV, h])
    have HD := Lib.hid (show runDownV zs = 0 by simp [runDownV, h])
    have HE := Lib.hid (show runE zs = 1 by simp [runE, h])
    go_enter Try.func19, Try.ntmps19
    go_wp2_with (go_at_call 48; refine (impl_areResults_c _ _ _ zs _ rfl hm hr).mono ?_; rintro e w' ⟨rfl, rfl⟩)
    go_ret3
    exact ⟨ret_int3 HV.out.symm HD.out.symm HE.out.symm, rfl⟩
  · have HV := Lib.hid (show runUpV zs = (runS zs).up by simp [runUpV, h])
    have HD := Lib.hid (show runDownV zs = (runS zs).down by simp [runDownV, h])
    have HE := Lib.hid (show runE zs = 0 by simp [runE, h])
    rcases hr.split with h0 | ⟨b, off, rfl, hb, hc⟩
    all_goals
      go_enter Try.func19, Try.ntmps19
      go_wp2_with (go_at_call 48; refine (impl_areResults_c _ _ _ zs _ rfl hm hr).mono ?_; rintro e w' ⟨rfl, rfl⟩)
      go_loop [5, 6, 7, 8, 16] (fun s5 s6 s7 s8 s16 => ∃ (a b c d : Int) (k : Nat), s5 = .int .i64 a ∧ s6 = .int .i64 b ∧ s7 = .int .i64 c ∧ s8 = .int .i64 d ∧ s16 = .int .i64 k ∧ k ≤ zs.length ∧ RunRel zs k a b c d) (fun _ _ _ _ i => zs.length - (intOf i).toNat)
      case atStart => exact ⟨0, 0, 0, 0, 0, rfl, rfl, rfl, rfl, rfl, Nat.zero_le _, rfl, by omega, by omega, by omega, by omega, by omega, by omega, by omega, by omega⟩
      case round =>
        obtain ⟨a, b', c', d, k, rfl, rfl, rfl, rfl, rfl, hk, hrr⟩ := hrel
        have hbd := hrr.2
        by_cases hlt : k < zs.length
        · first
            | (exfalso; omega; done)
            | (obtain ⟨x, hx⟩ := get_some hlt
               have hcx := hc.out k x hx
               have HX := Lib.hid hx
               clear hx
               rcases Int.lt_trichotomy x 0 with h1 | h1 | h1
               · by_cases h2 : b' < d + 1
                 · have HR := Lib.hid (runDown1 hrr HX.out h1 h2)
                   clear hrr
                   go_wp2_with fail
                   go_round
                   case rel => exact ⟨_, _, _, _, k + 1, rfl, rfl, rfl, rfl, by go_num, by omega, HR.out⟩
                   case measure => simp [intOf]; omega
                 · have HR := Lib.hid (runDown2 hrr HX.out h1 h2)
                   clear hrr
                   go_wp2_with fail
                   go_round
                   case rel => exact ⟨_, _, _, _, k + 1, rfl, rfl, rfl, rfl, by go_num, by omega, HR.out⟩
                   case measure => simp [intOf]; omega
               · have HR := Lib.hid (runNone hrr HX.out h1)
                 subst h1
                 clear hrr
                 go_wp2_with fail
                 go_round
                 case rel => exact ⟨_, _, _, _, k + 1, rfl, rfl, rfl, rfl, by go_num, by omega, HR.out⟩
                 case measure => simp [intOf]; omega
               · by_cases h2 : a < c' + 1
                 · have HR := Lib.hid (runUp1 hrr HX.out h1 h2)
                   clear hrr
                   go_wp2_with fail
                   go_round
                   case rel => exact ⟨_, _, _, _, k + 1, rfl, rfl, rfl, rfl, by go_num, by omega, HR.out⟩
                   case measure => simp [intOf]; omega
                 · have HR := Lib.hid (runUp2 hrr HX.out h1 h2)
                   clear hrr
                   go_wp2_with fail
                   go_round
                   case rel => exact ⟨_, _, _, _, k + 1, rfl, rfl, rfl, rfl, by go_num, by omega, HR.out⟩
                   case measure => simp [intOf]; omega)
        · have he := hrr.1
          rw [List.take_of_length_le (by omega)] at he
          have HR := Lib.hid he
          clear he hrr
          go_wp2_with fail
          go_ret3
          exact ⟨ret_int3 (by rw [HV.out, HR.out]) (by rw [HD.out, HR.out]) HE.out.symm, rfl⟩
theorem spec_ExpectedRuns_c (A : Option Addr) (n c : Nat) (zs : List Int) (w : World) (hn : zs.length = n) (hm : n ≤ 1048576) (hr : RI w A zs) :
    Calls Try.prog 17 #[.slice A n c] w fun e w' => e = .returned (.tuple #[.int .i64 (runUpV zs), .int .i64 (runDownV zs), .int .i64 (runE zs)]) ∧ w = w' := by
  subst hn
  cases h : resB zs
  · have HV := Lib.hid (show runUpV zs = 0 by simp [runUpV, h])
    have HD := Lib.hid (show runDownV zs = 0 by simp [runDownV, h])
    have HE := Lib.hid (show runE zs = 1 by simp [runE, h])
    go_enter Try.func17, Try.ntmps17
    go_wp2_with (go_at_call 47; refine (spec_l33Results_c _ _ _ zs _ rfl hm hr).mono ?_; rintro e w' ⟨rfl, rfl⟩)
    go_ret3
    exact ⟨ret_int3 HV.out.symm HD.out.symm HE.out.symm, rfl⟩
  · have HV := Lib.hid (show runUpV zs = (runS zs).up by simp [runUpV, h])
    have HD := Lib.hid (show runDownV zs = (runS zs).down by simp [runDownV, h])
    have HE := Lib.hid (show runE zs = 0 by simp [runE, h])
    rcases hr.split with h0 | ⟨b, off, rfl, hb, hc⟩
    all_goals
      go_enter Try.func17, Try.ntmps17
      go_wp2_with (go_at_call 47; refine (spec_l33Results_c _ _ _ zs _ rfl hm hr).mono ?_; rintro e w' ⟨rfl, rfl⟩)
      go_loop [5, 6, 7, 8, 9] (fun s5 s6 s7 s8 s9 => ∃ (a b c d : Int) (k : Nat), s5 = .int .i64 c ∧ s6 = .int .i64 d ∧ s7 = .int .i64 a ∧ s8 = .int .i64 b ∧ s9 = .int .i64 k ∧ k ≤ zs.length ∧ RunRel zs k a b c d) (fun _ _ _ _ i => zs.length - (intOf i).toNat)
      case atStart => exact ⟨0, 0, 0, 0, 0, rfl, rfl, rfl, rfl, rfl, Nat.zero_le _, rfl, by omega, by omega, by omega, by omega, by omega, by omega, by omega, by omega⟩
      case round =>
        obtain ⟨a, b', c', d, k, rfl, rfl, rfl, rfl, rfl, hk, hrr⟩ := hrel
        have hbd := hrr.2
        by_cases hlt : k < zs.length
        · first
            | (exfalso; omega; done)
            | (obtain ⟨x, hx⟩ := get_some hlt
               have hcx := hc.out k x hx
               have HX := Lib.hid hx
               clear hx
               rcases Int.lt_trichotomy x 0 with h1 | h1 | h1
               · by_cases h2 : b' < d + 1
                 · have HR := Lib.hid (runDown1 hrr HX.out h1 h2)
                   clear hrr
                   go_wp2_with fail
                   go_round
                   case rel => exact ⟨_, _, _, _, k + 1, rfl, rfl, rfl, rfl, by go_num, by omega, HR.out⟩
                   case measure => simp [intOf]; omega
                 · have HR := Lib.hid (runDown2 hrr HX.out h1 h2)
                   clear hrr
                   go_wp2_with fail
                   go_round
                   case rel => exact ⟨_, _, _, _, k + 1, rfl, rfl, rfl, rfl, by go_num, by omega, HR.out⟩
                   case measure => simp [intOf]; omega
               · have HR := Lib.hid (runNone hrr HX.out h1)
                 subst h1
                 clear hrr
                 go_wp2_with fail
                 go_round
                 case rel => exact ⟨_, _, _, _, k + 1, rfl, rfl, rfl, rfl, by go_num, by omega, HR.out⟩
                 case measure => simp [intOf]; omega
               · by_cases h2 : a < c' + 1
                 · have HR := Lib.hid (runUp1 hrr HX.out h1 h2)
                   clear hrr
                   go_wp2_with fail
                   go_round
                   case rel => exact ⟨_, _, _, _, k + 1, rfl, rfl, rfl, rfl, by go_num, by omega, HR.out⟩
                   case measure => simp [intOf]; omega
                 · have HR := Lib.hid (runUp2 hrr HX.out h1 h2)
                   clear hrr
                   go_wp2_with fail
                   go_round
                   case rel => exact ⟨_, _, _, _, k + 1, rfl, rfl, rfl, rfl, by go_num, by omega, HR.out⟩
                   case measure => simp [intOf]; omega)
        · have he := hrr.1
          rw [List.take_of_length_le (by omega)] at he
          have HR := Lib.hid he
          clear he hrr
          go_wp2_with fail
          go_ret3
          exact ⟨ret_int3 (by rw [HV.out, HR.out]) (by rw [HD.out, HR.out]) HE.out.symm, rfl⟩
end Go.Proofs.Ytcdianhemnpmcaa
