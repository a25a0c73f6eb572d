/-
  The contracts of GreatestDrop, in the program and in the reference. Conditions: at most 1048576 elements.
-/
import Derived.Test.YtcdianhemnpmcaaBal
import Derived.BigRegion
namespace Go.Proofs.Ytcdianhemnpmcaa
open Go.RowKit
set_option linter.unusedVariables false

structure Drop where
  d : Int
  f : Nat
  l : Nat
def updD (b : List Int) (i k : Nat) (s : Drop) : Drop := if s.d < b.getD i 0 - b.getD k 0 then ⟨b.getD i 0 - b.getD k 0, i, k⟩ else s
def dIn (b : List Int) (i : Nat) : Nat → Nat → Drop → Drop
  | 0, _, s => s
  | n + 1, k, s => dIn b i n (k + 1) (updD b i k s)
def dOut (b : List Int) : Nat → Nat → Drop → Drop
  | 0, _, s => s
  | n + 1, i, s => dOut b n (i + 1) (dIn b i (b.length - (i + 1)) (i + 1) s)
def dropS (b : List Int) : Drop := dOut b b.length 0 ⟨0, 0, 0⟩
theorem dIn_step {b : List Int} {i k : Nat} {s : Drop} (hk : k < b.length) : dIn b i (b.length - k) k s = dIn b i (b.length - (k + 1)) (k + 1) (updD b i k s) := by
  rw [show b.length - k = (b.length - (k + 1)) + 1 from by omega]; rfl
theorem dIn_done {b : List Int} {i k : Nat} {s : Drop} (hk : ¬ k < b.length) : dIn b i (b.length - k) k s = s := by
  rw [show b.length - k = 0 from by omega]; rfl
theorem dOut_step {b : List Int} {i : Nat} {s : Drop} (hk : i < b.length) : dOut b (b.length - i) i s = dOut b (b.length - (i + 1)) (i + 1) (dIn b i (b.length - (i + 1)) (i + 1) s) := by
  rw [show b.length - i = (b.length - (i + 1)) + 1 from by omega]; rfl
theorem dOut_done {b : List Int} {i : Nat} {s : Drop} (hk : ¬ i < b.length) : dOut b (b.length - i) i s = s := by
  rw [show b.length - i = 0 from by omega]; rfl
theorem upd_yes {b : List Int} {i k : Nat} {s : Drop} {x y : Int} (hx : b[i]? = some x) (hy : b[k]? = some y) (h : s.d < x - y) : updD b i k s = ⟨x - y, i, k⟩ := by
  have e1 : b.getD i 0 = x := by simp [List.getD, hx]
  have e2 : b.getD k 0 = y := by simp [List.getD, hy]
  unfold updD; rw [e1, e2, if_pos h]
theorem upd_no {b : List Int} {i k : Nat} {s : Drop} {x y : Int} (hx : b[i]? = some x) (hy : b[k]? = some y) (h : ¬ s.d < x - y) : updD b i k s = s := by
  have e1 : b.getD i 0 = x := by simp [List.getD, hx]
  have e2 : b.getD k 0 = y := by simp [List.getD, hy]
  unfold updD; rw [e1, e2, if_neg h]

theorem balL_bound {zs : List Int} (h : ∀ x ∈ zs, -1000 ≤ x ∧ x ≤ 1000) (hl : zs.length ≤ 100) : ∀ (j : Nat) (x : Int), (balL zs)[j]? = some x → -100000 ≤ x ∧ x ≤ 100000 := by
  intro j x hx
  have hj := (List.getElem?_eq_some_iff.1 hx).1
  rw [balL_len] at hj
  unfold balL at hx
  rw [List.getElem?_map, List.getElem?_range (by omega)] at hx
  simp at hx
  have := sumL_bound (B := 1000) (by omega) h j
  omega
def gdD (zs : List Int) : Int := if resB zs = true then (dropS (balL zs)).d else 0
def gdF (zs : List Int) : Int := if resB zs = true then ((dropS (balL zs)).f : Int) else 0
def gdL (zs : List Int) : Int := if resB zs = true then ((dropS (balL zs)).l : Int) else 0
def gdE (zs : List Int) : Int := if resB zs = true then 0 else 1
theorem results_tmp4 {fn : Func} {t u v x : Tmp} (h : fn.results = #[.tmp t, .tmp u, .tmp v, .tmp x]) (tmps : Array Value) (P : Program) (w : World) :
    (results fn tmps).run P w = .ok (.tuple #[tmps.getD t undef, tmps.getD u undef, tmps.getD v undef, tmps.getD x undef]) w := by simp [results, h]
theorem ret_int4 {a b c d a' b' c' d' : Int} (h : a = a') (h' : b = b') (h'' : c = c') (h3 : d = d') : Ending.returned (.tuple #[.int .i64 a, .int .i64 b, .int .i64 c, .int .i64 d]) = .returned (.tuple #[.int .i64 a', .int .i64 b', .int .i64 c', .int .i64 d']) := by rw [h, h', h'', h3]
def DropAt (s : Drop) (u v x : Value) : Prop := u = .int .i64 s.d ∧ v = .int .i64 (s.f : Int) ∧ x = .int .i64 (s.l : Int) ∧ 0 ≤ s.d ∧ s.d ≤ 200000
theorem impl_GreatestDrop_c (A : Option Addr) (n c : Nat) (zs : List Int) (w : World) (hn : zs.length = n) (hm : n ≤ 1048576) (hr : RI w A zs) :
    Calls Try.prog 26 #[.slice A n c] w fun e w' => e = .returned (.tuple #[.int .i64 (gdD zs), .int .i64 (gdF zs), .int .i64 (gdL zs), .int .i64 (gdE zs)]) ∧ Below w.heap.size w w' := by
  subst hn
  cases h : resB zs
  · have H1 := Lib.hid (show gdD zs = 0 by simp [gdD, h])
    have H2 := Lib.hid (show gdF zs = 0 by simp [gdF, h])
    have H3 := Lib.hid (show gdL zs = 0 by simp [gdL, h])
    have H4 := Lib.hid (show gdE zs = 1 by simp [gdE, h])
    go_enter Try.func26, Try.ntmps26
    go_wp2_with (go_at_call 48; refine (impl_areResults_c _ _ _ zs _ rfl hm hr).mono ?_; rintro e w' ⟨rfl, rfl⟩)
    refine bodyPost_ret (results_tmp4 rfl _ _ _) rfl ?_
    exact ⟨ret_int4 H1.out.symm H2.out.symm H3.out.symm H4.out.symm, Below.refl _ _⟩
  · have H1 := Lib.hid (show gdD zs = (dropS (balL zs)).d by simp [gdD, h])
    have H2 := Lib.hid (show gdF zs = ((dropS (balL zs)).f : Int) by simp [gdF, h])
    have H3 := Lib.hid (show gdL zs = ((dropS (balL zs)).l : Int) by simp [gdL, h])
    have H4 := Lib.hid (show gdE zs = 0 by simp [gdE, h])
    obtain ⟨r1, r2, r3⟩ := resB_iff.1 h
    have HB := Lib.hid (balL_bound r3 r2)
    have hz : Hid (∀ x ∈ zs, -4000000000 ≤ x ∧ x ≤ 4000000000) := fun x hx => by have := r3 x hx; omega
    clear r3
    have hlen := balL_len zs
    have HLN := Lib.hid hlen
    clear hlen
    go_enter Try.func26, Try.ntmps26
    go_wp2_with (go_at_call 48; refine (impl_areResults_c _ _ _ zs _ rfl hm hr).mono ?_; rintro e w' ⟨rfl, rfl⟩)
    refine (impl_balancesOf_c _ _ _ zs _ rfl hm hr hz).mono ?_
    rintro e w1 ⟨g, c', rfl, hcap, ho, hbw⟩
    have HBW := Lib.hid hbw
    clear hbw
    rcases ho with ho | ⟨g', off', hA, _, _, hglt, hcell, _⟩
    · exfalso
      have := HLN.out
      rw [ho] at this
      simp at this
    · injection hA with hA; injection hA with hA1 hA2; subst hA1 hA2
      have HC : Hid (∀ (j : Nat) (x : Int), (balL zs)[j]? = some x → w1.cell? ⟨g, j, none⟩ = some (.int .i64 x)) := fun j x hx => by have := hcell j x hx; rwa [Nat.zero_add] at this
      clear hcell
      go_wp2_with fail
      go_loop [6, 7, 8, 21] (fun u v x i => ∃ (s : Drop) (k : Nat), DropAt s u v x ∧ i = .int .i64 k ∧ k ≤ zs.length + 1 ∧ Hid (dOut (balL zs) ((balL zs).length - k) k s = dropS (balL zs))) (fun _ _ _ i => zs.length + 1 - (intOf i).toNat)
      case atStart => exact ⟨⟨0, 0, 0⟩, 0, ⟨rfl, rfl, rfl, by decide, by decide⟩, rfl, Nat.zero_le _, rfl⟩
      case round =>
        obtain ⟨s, k, ⟨rfl, rfl, rfl, s0, s1⟩, rfl, hk, HD⟩ := hrel
        by_cases hlt : k < zs.length + 1
        · obtain ⟨x, hx⟩ := get_some (zs := balL zs) (k := k) (by rw [HLN.out]; omega)
          have hcx := HC.out k x hx
          obtain ⟨x0, x1⟩ := HB.out k x hx
          have HX := Lib.hid hx
          have g1 : (k : Int) < (zs.length : Int) + 1 := by omega
          have g2 : 0 ≤ (k : Int) := by omega
          clear hx
          go_wp2_with fail
          go_loop [6, 7, 8, 12] (fun u v y i => ∃ (s' : Drop) (j : Nat), DropAt s' u v y ∧ i = .int .i64 j ∧ k + 1 ≤ j ∧ j ≤ zs.length + 1 ∧ Hid (dIn (balL zs) k ((balL zs).length - j) j s' = dIn (balL zs) k ((balL zs).length - (k + 1)) (k + 1) s)) (fun _ _ _ i => zs.length + 1 - (intOf i).toNat)
          case atStart => exact ⟨s, k + 1, ⟨rfl, rfl, rfl, s0, s1⟩, by go_num, Nat.le_refl _, by omega, rfl⟩
          case round =>
            obtain ⟨s', j, ⟨rfl, rfl, rfl, t0, t1⟩, rfl, hkj, hj, HI⟩ := hrel
            by_cases hjl : j < zs.length + 1
            · obtain ⟨y, hy⟩ := get_some (zs := balL zs) (k := j) (by rw [HLN.out]; omega)
              have hcy := HC.out j y hy
              obtain ⟨y0, y1⟩ := HB.out j y hy
              have HST := Lib.hid (dIn_step (b := balL zs) (i := k) (k := j) (s := s') (by rw [HLN.out]; omega))
              by_cases hgt : s'.d < x - y
              · have HU := Lib.hid (upd_yes HX.out hy hgt)
                clear hy
                go_wp2_with fail
                go_round
                case rel => exact ⟨⟨x - y, k, j⟩, j + 1, ⟨rfl, rfl, rfl, by simp only []; omega, by simp only []; omega⟩, by go_num, by omega, by omega, by unfold Hid; rw [← HU.out, ← HST.out]; exact HI.out⟩
                case measure => simp [intOf]; omega
              · have HU := Lib.hid (upd_no HX.out hy hgt)
                clear hy
                go_wp2_with fail
                go_round
                case rel => exact ⟨s', j + 1, ⟨rfl, rfl, rfl, t0, t1⟩, by go_num, by omega, by omega, by unfold Hid; rw [← HI.out, HST.out, HU.out]⟩
                case measure => simp [intOf]; omega
            · have HDN := Lib.hid (dIn_done (b := balL zs) (i := k) (k := j) (s := s') (by rw [HLN.out]; omega))
              go_wp2_with fail
              go_round
              case rel => exact ⟨s', k + 1, ⟨rfl, rfl, rfl, t0, t1⟩, by go_num, by omega, by unfold Hid; rw [← HD.out, dOut_step (b := balL zs) (i := k) (by rw [HLN.out]; omega), ← HI.out, HDN.out]⟩
              case measure => simp [intOf]; omega
        · have HDN := Lib.hid (dOut_done (b := balL zs) (i := k) (s := s) (by rw [HLN.out]; omega))
          have HS := Lib.hid (HDN.out.symm.trans HD.out)
          go_wp2_with fail
          refine bodyPost_ret (results_tmp4 rfl _ _ _) rfl ?_
          exact ⟨ret_int4 (by rw [H1.out, ← HS.out]) (by rw [H2.out, ← HS.out]) (by rw [H3.out, ← HS.out]) H4.out.symm, HBW.out⟩
theorem spec_GreatestDrop_c (A : Option Addr) (n c : Nat) (zs : List Int) (w : World) (hn : zs.length = n) (hm : n ≤ 1048576) (hr : RI w A zs) :
    Calls Try.prog 25 #[.slice A n c] w fun e w' => e = .returned (.tuple #[.int .i64 (gdD zs), .int .i64 (gdF zs), .int .i64 (gdL zs), .int .i64 (gdE zs)]) ∧ Below w.heap.size w w' := by
  subst hn
  cases h : resB zs
  · have H1 := Lib.hid (show gdD zs = 0 by simp [gdD, h])
    have H2 := Lib.hid (show gdF zs = 0 by simp [gdF, h])
    have H3 := Lib.hid (show gdL zs = 0 by simp [gdL, h])
    have H4 := Lib.hid (show gdE zs = 1 by simp [gdE, h])
    go_enter Try.func25, Try.ntmps25
    go_wp2_with (go_at_call 47; refine (spec_l33Results_c _ _ _ zs _ rfl hm hr).mono ?_; rintro e w' ⟨rfl, rfl⟩)
    refine bodyPost_ret (results_tmp4 rfl _ _ _) rfl ?_
    exact ⟨ret_int4 H1.out.symm H2.out.symm H3.out.symm H4.out.symm, Below.refl _ _⟩
  · have H1 := Lib.hid (show gdD zs = (dropS (balL zs)).d by simp [gdD, h])
    have H2 := Lib.hid (show gdF zs = ((dropS (balL zs)).f : Int) by simp [gdF, h])
    have H3 := Lib.hid (show gdL zs = ((dropS (balL zs)).l : Int) by simp [gdL, h])
    have H4 := Lib.hid (show gdE zs = 0 by simp [gdE, h])
    obtain ⟨r1, r2, r3⟩ := resB_iff.1 h
    have HB := Lib.hid (balL_bound r3 r2)
    have hz : Hid (∀ x ∈ zs, -4000000000 ≤ x ∧ x ≤ 4000000000) := fun x hx => by have := r3 x hx; omega
    clear r3
    have hlen := balL_len zs
    have HLN := Lib.hid hlen
    clear hlen
    go_enter Try.func25, Try.ntmps25
    go_wp2_with (go_at_call 47; refine (spec_l33Results_c _ _ _ zs _ rfl hm hr).mono ?_; rintro e w' ⟨rfl, rfl⟩)
    refine (spec_l33Balances_c _ _ _ zs _ rfl hm hr hz).mono ?_
    rintro e w1 ⟨g, c', rfl, hcap, ho, hbw⟩
    have HBW := Lib.hid hbw
    clear hbw
    rcases ho with ho | ⟨g', off', hA, _, _, hglt, hcell, _⟩
    · exfalso
      have := HLN.out
      rw [ho] at this
      simp at this
    · injection hA with hA; injection hA with hA1 hA2; subst hA1 hA2
      have HC : Hid (∀ (j : Nat) (x : Int), (balL zs)[j]? = some x → w1.cell? ⟨g, j, none⟩ = some (.int .i64 x)) := fun j x hx => by have := hcell j x hx; rwa [Nat.zero_add] at this
      clear hcell
      go_wp2_with fail
      go_loopw [7, 8, 9, 10] (fun u v x i wr => ∃ (s : Drop) (k : Nat), DropAt s u v x ∧ i = .int .i64 k ∧ k ≤ zs.length + 1 ∧ Hid (dOut (balL zs) ((balL zs).length - k) k s = dropS (balL zs)) ∧ ∃ q, wr = w1.drewN q) (fun _ _ _ i _ => zs.length + 1 - (intOf i).toNat)
      case atStart => exact ⟨⟨0, 0, 0⟩, 0, ⟨rfl, rfl, rfl, by decide, by decide⟩, rfl, Nat.zero_le _, rfl, 0, rfl⟩
      case round =>
        obtain ⟨s, k, ⟨rfl, rfl, rfl, s0, s1⟩, rfl, hk, HD, q, rfl⟩ := hrel
        by_cases hlt : k < zs.length + 1
        · obtain ⟨x, hx⟩ := get_some (zs := balL zs) (k := k) (by rw [HLN.out]; omega)
          have hcx := HC.out k x hx
          obtain ⟨x0, x1⟩ := HB.out k x hx
          have HX := Lib.hid hx
          have g1 : (k : Int) < (zs.length : Int) + 1 := by omega
          have g2 : 0 ≤ (k : Int) := by omega
          clear hx
          go_wp2_with fail
          go_loopw [7, 8, 9, 11] (fun u v y i wr => ∃ (s' : Drop) (j : Nat), DropAt s' u v y ∧ i = .int .i64 j ∧ k + 1 ≤ j ∧ j ≤ zs.length + 1 ∧ Hid (dIn (balL zs) k ((balL zs).length - j) j s' = dIn (balL zs) k ((balL zs).length - (k + 1)) (k + 1) s) ∧ ∃ q, wr = w1.drewN q) (fun _ _ _ i _ => zs.length + 1 - (intOf i).toNat)
          case atStart => exact ⟨s, k + 1, ⟨rfl, rfl, rfl, s0, s1⟩, by go_num, Nat.le_refl _, by omega, rfl, q, rfl⟩
          case round =>
            obtain ⟨s', j, ⟨rfl, rfl, rfl, t0, t1⟩, rfl, hkj, hj, HI, q2, rfl⟩ := hrel
            by_cases hjl : j < zs.length + 1
            · obtain ⟨y, hy⟩ := get_some (zs := balL zs) (k := j) (by rw [HLN.out]; omega)
              have hcy := HC.out j y hy
              obtain ⟨y0, y1⟩ := HB.out j y hy
              have HST := Lib.hid (dIn_step (b := balL zs) (i := k) (k := j) (s := s') (by rw [HLN.out]; omega))
              by_cases hgt : s'.d < x - y
              · have HU := Lib.hid (upd_yes HX.out hy hgt)
                clear hy
                have hwx := IntWalk.i64_in (x - y) (by omega)
                have g3 : (j : Int) < (zs.length : Int) + 1 := by omega
                have g4 : 0 ≤ (j : Int) := by omega
                go_wp2_with fail
                go_quiet (fail)
                go_wp2_with fail
                go_quiet (fail)
                clear hwx
                go_wp2_with fail
                go_roundw
                case rel => exact ⟨⟨x - y, k, j⟩, j + 1, ⟨rfl, rfl, rfl, by simp only []; omega, by simp only []; omega⟩, by go_num, by omega, by omega, by unfold Hid; rw [← HU.out, ← HST.out]; exact HI.out, _, rfl⟩
                case measure => simp [intOf]; omega
              · have HU := Lib.hid (upd_no HX.out hy hgt)
                clear hy
                have hwx := IntWalk.i64_in (x - y) (by omega)
                have g3 : (j : Int) < (zs.length : Int) + 1 := by omega
                have g4 : 0 ≤ (j : Int) := by omega
                go_wp2_with fail
                go_quiet (fail)
                go_wp2_with fail
                clear hwx
                go_roundw
                case rel => exact ⟨s', j + 1, ⟨rfl, rfl, rfl, t0, t1⟩, by go_num, by omega, by omega, by unfold Hid; rw [← HI.out, HST.out, HU.out], _, rfl⟩
                case measure => simp [intOf]; omega
            · have HDN := Lib.hid (dIn_done (b := balL zs) (i := k) (k := j) (s := s') (by rw [HLN.out]; omega))
              go_wp2_with fail
              go_roundw
              case rel => exact ⟨s', k + 1, ⟨rfl, rfl, rfl, t0, t1⟩, by go_num, by omega, by unfold Hid; rw [← HD.out, dOut_step (b := balL zs) (i := k) (by rw [HLN.out]; omega), ← HI.out, HDN.out], _, rfl⟩
              case measure => simp [intOf]; omega
        · have HDN := Lib.hid (dOut_done (b := balL zs) (i := k) (s := s) (by rw [HLN.out]; omega))
          have HS := Lib.hid (HDN.out.symm.trans HD.out)
          go_wp2_with fail
          refine bodyPost_ret (results_tmp4 rfl _ _ _) rfl ?_
          exact ⟨ret_int4 (by rw [H1.out, ← HS.out]) (by rw [H2.out, ← HS.out]) (by rw [H3.out, ← HS.out]) H4.out.symm, below_drewN HBW.out _⟩
end Go.Proofs.Ytcdianhemnpmcaa
