/-
  The contracts of balancesOf, l33Balances, BalancesOf. Conditions: at most 1048576 elements.
-/
import Derived.Test.YtcdianhemnpmcaaResults
import Derived.Test.YtcdianhemnpmcaaArg
import Derived.StillTailTactics
import Derived.Deep.RegionLaw
namespace Go.Proofs.Ytcdianhemnpmcaa
open Go.RowKit
set_option linter.unusedVariables false

theorem Row.cap {w : World} {base g n c : Nat} {zs : List Int} (h : Row w base (some ⟨g, 0, none⟩) n c zs) : n ≤ c := by
  rcases h.2 with ⟨hv, _⟩ | ⟨g', cap, cur, hv, _, _, hn, _⟩
  · cases hv
  · injection hv with _ _ hc; omega
theorem ret_slice {A : Option Addr} {n m c : Nat} (h : n = m) : Ending.returned (.slice A n c) = .returned (.slice A m c) := by rw [h]
/-- The balance before all numbers and after each one. -/
def balL (zs : List Int) : List Int := (List.range (zs.length + 1)).map fun k => sumL (zs.take k)
def balTo (zs : List Int) (k : Nat) : List Int := (List.range (k + 1)).map fun j => sumL (zs.take j)
theorem balTo_get (zs : List Int) (k : Nat) : (balTo zs k)[k]? = some (sumL (zs.take k)) := by
  unfold balTo
  rw [List.getElem?_map, List.getElem?_range (by omega)]
  rfl
theorem balTo_step {zs : List Int} {k : Nat} {x : Int} (hx : zs[k]? = some x) : balTo zs k ++ [sumL (zs.take k) + x] = balTo zs (k + 1) := by
  unfold balTo
  rw [List.range_succ (n := k + 1), List.map_append, List.map_cons, List.map_nil, sumL_step hx]
theorem balTo_done {zs : List Int} {k : Nat} (h : k = zs.length) : balTo zs k = balL zs := by rw [h]; rfl
theorem Row.one (w : World) {base : Nat} (hb : base ≤ w.heap.size) (x : Int) : Row (w.alloc (.cells #[.int .i64 x] 2)) base (some ⟨w.heap.size, 0, none⟩) 1 1 [x] :=
  World.ownsRow_lit w #[.int .i64 x] 1 hb (by unfold maxLen; omega) rfl
theorem Row.cell {w : World} {base g n c : Nat} {zs : List Int} (h : Row w base (some ⟨g, 0, none⟩) n c zs) {j : Nat} {x : Int} (hx : zs[j]? = some x) : w.cell? ⟨g, j, none⟩ = some (.int .i64 x) := by
  have h1 : (zs.map (Value.int .i64))[j]? = some (.int .i64 x) := by simp [hx]
  have := World.ownsRow.cells h (g := g) rfl j _ h1
  rwa [Addr.add_lit, Nat.zero_add] at this

theorem spec_l33Balances_c (A : Option Addr) (n c : Nat) (zs : List Int) (w : World) (hn : zs.length = n) (hm : n ≤ 1048576) (hr : RI w A zs) (hz : Hid (∀ x ∈ zs, -4000000000 ≤ x ∧ x ≤ 4000000000)) :
    Calls Try.prog 49 #[.slice A n c] w fun e w' => ∃ g c', e = .returned (.slice (some ⟨g, 0, none⟩) (n + 1) c') ∧ n + 1 ≤ c' ∧ OI w' w.heap.size w'.heap.size (some ⟨g, 0, none⟩) (balL zs) ∧ Below w.heap.size w w' := by
  subst hn
  rcases hr.split with h0 | ⟨b, off, rfl, hb, hc⟩
  all_goals
    go_enter Try.func49, Try.ntmps49
    go_wp2_with fail
    go_loopw [3, 4] (fun o i wr => ∃ k g c', o = .slice (some ⟨g, 0, none⟩) (k + 1) c' ∧ i = .int .i64 (k : Nat) ∧ k ≤ zs.length ∧ Row wr w.heap.size (some ⟨g, 0, none⟩) (k + 1) c' (balTo zs k) ∧ Below w.heap.size w wr) (fun _ i _ => zs.length - (intOf i).toNat)
    case atStart => exact ⟨0, _, _, rfl, rfl, Nat.zero_le _, Row.one w (Nat.le_refl _) 0, (Below.refl _ _).alloc (Nat.le_refl _) _⟩
    case round =>
      obtain ⟨k, g, c', rfl, rfl, hk, ho, hbr⟩ := hrel
      by_cases hlt : k < zs.length
      · first
          | (exfalso; omega; done)
          | (obtain ⟨x, hx⟩ := get_some hlt
             have hcx := (hbr.cell (p := ⟨b, off + k, none⟩) hb).trans (hc.out k x hx)
             obtain ⟨x0, x1⟩ := hz.out x (List.mem_of_getElem? hx)
             obtain ⟨s0, s1⟩ := sumL_bound (B := 4000000000) (by omega) hz.out k
             have hcy := ho.cell (balTo_get zs k)
             have hsz := hbr.size
             have HS := Lib.hid (balTo_step hx)
             clear hx
             have hk1 : (k : Int) < (k : Int) + 1 := by omega
             have hk2 : (k : Int) < (zs.length : Int) := by omega
             have hk3 : 0 ≤ (k : Int) := by omega
             have hwr := IntWalk.i64_in (sumL (zs.take k) + x) (by omega)
             go_wp2_with fail
             go_region_law ((refine step_append1 (by rfl) _ _ (by rfl) w.heap.size (some ⟨g, 0, none⟩) (k + 1) c' _ (by rfl) (Row.alloc (Row.drewN ho 1) _) wr.heap.size 1 (sumL (zs.take k) + x) (by rfl) (by simp) (by omega) (by simp; omega) ?_; intro g2 c2 w2 hr2 hb2))
             all_goals
               rw [HS.out] at hr2
               clear hwr
               go_wp2_with fail
               go_roundw
               case rel => exact ⟨k + 1, g2, c2, rfl, by go_num, by omega, hr2, (hbr.drew.alloc (by simp; omega) _).trans hb2⟩
               case measure => simp [intOf]; omega)
      · have hke : k = zs.length := by omega
        have hd := Lib.hid (balTo_done hke)
        have HK := Lib.hid hke
        clear hke
        go_wp2_with fail
        go_ret
        refine ⟨g, c', ret_slice (by rw [HK.out]), by have := ho.cap; have := HK.out; omega, ?_, hbr⟩
        rw [hd.out] at ho
        exact ho.oi

theorem impl_balancesOf_c (A : Option Addr) (n c : Nat) (zs : List Int) (w : World) (hn : zs.length = n) (hm : n ≤ 1048576) (hr : RI w A zs) (hz : Hid (∀ x ∈ zs, -4000000000 ≤ x ∧ x ≤ 4000000000)) :
    Calls Try.prog 50 #[.slice A n c] w fun e w' => ∃ g c', e = .returned (.slice (some ⟨g, 0, none⟩) (n + 1) c') ∧ n + 1 ≤ c' ∧ OI w' w.heap.size w'.heap.size (some ⟨g, 0, none⟩) (balL zs) ∧ Below w.heap.size w w' := by
  subst hn
  rcases hr.split with h0 | ⟨b, off, rfl, hb, hc⟩
  all_goals
    go_enter Try.func50, Try.ntmps50
    go_wp2_with fail
    go_loopw [3, 9] (fun o i wr => ∃ k g c', o = .slice (some ⟨g, 0, none⟩) (k + 1) c' ∧ i = .int .i64 (k : Nat) ∧ k ≤ zs.length ∧ Row wr w.heap.size (some ⟨g, 0, none⟩) (k + 1) c' (balTo zs k) ∧ Below w.heap.size w wr) (fun _ i _ => zs.length - (intOf i).toNat)
    case atStart => exact ⟨0, _, _, rfl, rfl, Nat.zero_le _, Row.one w (Nat.le_refl _) 0, (Below.refl _ _).alloc (Nat.le_refl _) _⟩
    case round =>
      obtain ⟨k, g, c', rfl, rfl, hk, ho, hbr⟩ := hrel
      by_cases hlt : k < zs.length
      · first
          | (exfalso; omega; done)
          | (obtain ⟨x, hx⟩ := get_some hlt
             have hcx := (hbr.cell (p := ⟨b, off + k, none⟩) hb).trans (hc.out k x hx)
             obtain ⟨x0, x1⟩ := hz.out x (List.mem_of_getElem? hx)
             obtain ⟨s0, s1⟩ := sumL_bound (B := 4000000000) (by omega) hz.out k
             have hcy := ho.cell (balTo_get zs k)
             have hsz := hbr.size
             have HS := Lib.hid (balTo_step hx)
             clear hx
             go_wp2_with (at_builtin; refine wpList_append1 rfl _ _ rfl w.heap.size (some ⟨g, 0, none⟩) (k + 1) c' _ rfl (Row.alloc ho _) wr.heap.size 1 (sumL (zs.take k) + x) rfl (by simp) (by omega) (by simp; omega) ?_; intro g2 c2 w2 hr2 hb2 hg2)
             rw [HS.out] at hr2
             go_roundw
             case rel => exact ⟨k + 1, g2, c2, rfl, by go_num, by omega, hr2, (hbr.alloc (by omega) _).trans hb2⟩
             case measure => simp [intOf]; omega)
      · have hke : k = zs.length := by omega
        have hd := Lib.hid (balTo_done hke)
        have HK := Lib.hid hke
        clear hke
        go_wp2_with fail
        go_ret
        refine ⟨g, c', ret_slice (by rw [HK.out]), by have := ho.cap; have := HK.out; omega, ?_, hbr⟩
        rw [hd.out] at ho
        exact ho.oi

def balV (zs : List Int) : List Int := if resB zs = true then (balL zs).drop 1 else []
def balE (zs : List Int) : Int := if resB zs = true then 0 else 1
theorem balL_len (zs : List Int) : (balL zs).length = zs.length + 1 := by simp [balL]
theorem OI.cut {w : World} {lo hi b : Nat} {zs : List Int} (h : OI w lo hi (some ⟨b, 0, none⟩) zs) : OI w lo hi (some ⟨b, 1, none⟩) (zs.drop 1) := by
  rcases h with h | ⟨b', off, e, l1, l2, h2, h3, h4⟩
  · exact .inl (by rw [h]; rfl)
  · injection e with e; injection e with e1 e2; subst e1 e2
    refine .inr ⟨b, 1, rfl, l1, l2, h2, fun j x hx => ?_, h4⟩
    rw [List.getElem?_drop] at hx
    have := h3 (1 + j) x hx
    rwa [Nat.zero_add] at this

theorem impl_BalancesOf_c (A : Option Addr) (n c : Nat) (zs : List Int) (w : World) (hn : zs.length = n) (hm : n ≤ 1048576) (hr : RI w A zs) :
    Calls Try.prog 22 #[.slice A n c] w (LR w (balV zs) (balE zs)) := by
  subst hn
  cases h : resB zs
  · have HV := Lib.hid (show balV zs = [] by simp [balV, h])
    have HE := Lib.hid (show balE zs = 1 by simp [balE, h])
    go_enter Try.func22, Try.ntmps22
    go_wp2_with (go_at_call 48; refine (impl_areResults_c _ _ _ zs _ rfl hm hr).mono ?_; rintro e w' ⟨rfl, rfl⟩)
    go_ret2
    rw [HV.out, HE.out]
    exact LR.mk rfl rfl (Nat.zero_le _) (OI.nil _ _ _ _) (Below.refl _ _)
  · have HV := Lib.hid (show balV zs = (balL zs).drop 1 by simp [balV, h])
    have HE := Lib.hid (show balE zs = 0 by simp [balE, h])
    obtain ⟨r1, r2, r3⟩ := resB_iff.1 h
    have hz : Hid (∀ x ∈ zs, -4000000000 ≤ x ∧ x ≤ 4000000000) := fun x hx => by have := r3 x hx; omega
    clear r3
    go_enter Try.func22, Try.ntmps22
    go_wp2_with (go_at_call 48; refine (impl_areResults_c _ _ _ zs _ rfl hm hr).mono ?_; rintro e w' ⟨rfl, rfl⟩)
    refine (impl_balancesOf_c _ _ _ zs _ rfl hm hr hz).mono ?_
    rintro e w1 ⟨g, c', rfl, hcap, ho, hb⟩
    have hne : ¬ c' = 1 := by omega
    have hle : 1 ≤ c' := by omega
    go_wp2_with fail
    go_ret2
    rw [HV.out, HE.out]
    exact LR.mk rfl (by rw [List.length_drop, balL_len]; rfl) hm ho.cut hb

theorem spec_BalancesOf_c (A : Option Addr) (n c : Nat) (zs : List Int) (w : World) (hn : zs.length = n) (hm : n ≤ 1048576) (hr : RI w A zs) :
    Calls Try.prog 21 #[.slice A n c] w (LR w (balV zs) (balE zs)) := by
  subst hn
  cases h : resB zs
  · have HV := Lib.hid (show balV zs = [] by simp [balV, h])
    have HE := Lib.hid (show balE zs = 1 by simp [balE, h])
    go_enter Try.func21, Try.ntmps21
    go_wp2_with (go_at_call 47; refine (spec_l33Results_c _ _ _ zs _ rfl hm hr).mono ?_; rintro e w' ⟨rfl, rfl⟩)
    go_ret2
    rw [HV.out, HE.out]
    exact LR.mk rfl rfl (Nat.zero_le _) (OI.nil _ _ _ _) (Below.refl _ _)
  · have HV := Lib.hid (show balV zs = (balL zs).drop 1 by simp [balV, h])
    have HE := Lib.hid (show balE zs = 0 by simp [balE, h])
    obtain ⟨r1, r2, r3⟩ := resB_iff.1 h
    have hz : Hid (∀ x ∈ zs, -4000000000 ≤ x ∧ x ≤ 4000000000) := fun x hx => by have := r3 x hx; omega
    clear r3
    go_enter Try.func21, Try.ntmps21
    go_wp2_with (go_at_call 47; refine (spec_l33Results_c _ _ _ zs _ rfl hm hr).mono ?_; rintro e w' ⟨rfl, rfl⟩)
    refine (spec_l33Balances_c _ _ _ zs _ rfl hm hr hz).mono ?_
    rintro e w1 ⟨g, c', rfl, hcap, ho, hb⟩
    have hne : ¬ c' = 1 := by omega
    have hle : 1 ≤ c' := by omega
    go_wp2_with fail
    go_ret2
    rw [HV.out, HE.out]
    exact LR.mk rfl (by rw [List.length_drop, balL_len]; rfl) hm ho.cut hb
end Go.Proofs.Ytcdianhemnpmcaa
