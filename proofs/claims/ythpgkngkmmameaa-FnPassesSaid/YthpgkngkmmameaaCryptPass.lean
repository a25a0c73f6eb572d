/-
  The contracts of l32Order, secondPass, firstPass, l32First. Conditions: as each contract states them.
-/
import Derived.Test.YthpgkngkmmameaaCryptMask
namespace Go.Proofs.Ythpgkngkmmameaa
open Go.RowKit
set_option linter.unusedVariables false

def orderL (zs ps : List Int) : List Int := ps.map fun k => zs.getD k.toNat 0
def firstL (key : Int) (ps : List Int) : List Int := ps.map fun c => pw (codeI c) key
theorem getD_of_get {zs : List Int} {k : Nat} {x : Int} (h : zs[k]? = some x) : zs.getD k 0 = x := by simp [List.getD, h]
theorem codeI_range (c : Int) (h0 : 0 ≤ c) (h1 : c ≤ 51) : 0 ≤ codeI c ∧ codeI c ≤ 2038 := by
  unfold codeI
  have := Int.emod_nonneg ((c + 2) * (c + 2)) (show (2039 : Int) ≠ 0 by decide)
  have := Int.emod_lt_of_pos ((c + 2) * (c + 2)) (show (0 : Int) < 2039 by decide)
  omega

theorem spec_l32Order_r (A B : Option Addr) (n c m d : Nat) (zs ps : List Int) (w : World) (hn : zs.length = n) (hm : ps.length = m) (hm' : m ≤ 1048576) (hr : RI w A zs) (hp : RI w B ps) (hps : Hid (∀ x ∈ ps, 0 ≤ x ∧ x < n)) :
    Calls Try.prog 133 #[.slice A n c, .slice B m d] w fun e w' => ∃ g c', e = .returned (.slice (some ⟨g, 0, none⟩) m c') ∧ Row w' w.heap.size (some ⟨g, 0, none⟩) m c' (orderL zs ps) ∧ Below w.heap.size w w' := by
  subst hn
  subst hm
  rcases hp.split with h0 | ⟨b, off, rfl, hb, hc⟩
  · go_enter Try.func133, Try.ntmps133
    go_wp2_with fail
    go_loopw [5, 6] (fun o i wr => ∃ g c', o = .slice (some ⟨g, 0, none⟩) 0 c' ∧ i = .int .i64 0 ∧ Row wr w.heap.size (some ⟨g, 0, none⟩) 0 c' [] ∧ Below w.heap.size w wr) (fun _ i _ => ps.length - (intOf i).toNat)
    case atStart => exact ⟨_, _, rfl, rfl, by simpa using Row.empty w (Nat.le_refl _), (Below.refl _ _).alloc (Nat.le_refl _) _⟩
    case round =>
      obtain ⟨g, c', rfl, rfl, ho, hbr⟩ := hrel
      have hlt : ¬ 0 < ps.length := by omega
      go_wp2_with fail
      go_ret
      have he : ps = [] := List.eq_nil_of_length_eq_zero (by omega)
      subst he
      exact ⟨g, c', rfl, ho, hbr⟩
  · rcases hr.split with h1 | ⟨b1, off1, rfl, hb1, hc1⟩
    · have hz : ps.length ≤ 0 := by
        rcases ps with _ | ⟨x, r⟩
        · simp
        · have := hps.out x (by simp); omega
      go_enter Try.func133, Try.ntmps133
      go_wp2_with fail
      go_loopw [5, 6] (fun o i wr => ∃ g c', o = .slice (some ⟨g, 0, none⟩) 0 c' ∧ i = .int .i64 0 ∧ Row wr w.heap.size (some ⟨g, 0, none⟩) 0 c' [] ∧ Below w.heap.size w wr) (fun _ i _ => ps.length - (intOf i).toNat)
      case atStart => exact ⟨_, _, rfl, rfl, by simpa using Row.empty w (Nat.le_refl _), (Below.refl _ _).alloc (Nat.le_refl _) _⟩
      case round =>
        obtain ⟨g, c', rfl, rfl, ho, hbr⟩ := hrel
        have hlt : ¬ 0 < ps.length := by omega
        go_wp2_with fail
        go_ret
        have he : ps = [] := List.eq_nil_of_length_eq_zero (by omega)
        subst he
        exact ⟨g, c', rfl, ho, hbr⟩
    · go_enter Try.func133, Try.ntmps133
      go_wp2_with fail
      go_loopw [5, 6] (fun o i wr => ∃ k g c', o = .slice (some ⟨g, 0, none⟩) k c' ∧ i = .int .i64 (k : Nat) ∧ k ≤ ps.length ∧ Row wr w.heap.size (some ⟨g, 0, none⟩) k c' ((ps.take k).map (fun j => zs.getD j.toNat 0)) ∧ Below w.heap.size w wr) (fun _ i _ => ps.length - (intOf i).toNat)
      case atStart => exact ⟨0, _, _, rfl, rfl, Nat.zero_le _, by simpa using Row.empty w (Nat.le_refl _), (Below.refl _ _).alloc (Nat.le_refl _) _⟩
      case round =>
        obtain ⟨k, g, c', rfl, rfl, hk, ho, hbr⟩ := hrel
        by_cases hlt : k < ps.length
        · obtain ⟨x, hx⟩ := get_some hlt
          have hcx := (hbr.cell (p := ⟨b, off + k, none⟩) hb).trans (hc.out k x hx)
          obtain ⟨hx0, hx1⟩ := hps.out x (List.mem_of_getElem? hx)
          obtain ⟨y, hy⟩ := get_some (zs := zs) (k := x.toNat) (by omega)
          have hcy := (hbr.cell (p := ⟨b1, off1 + x.toNat, none⟩) hb1).trans (hc1.out x.toNat y hy)
          have hsz := hbr.size
          have hst := map_app_step (fun j => zs.getD j.toNat 0) ps k x hx
          simp only [getD_of_get hy] at hst
          have HS := Lib.hid hst
          clear hx hst hy
          go_wp2_with (at_builtin; refine wpList_append1 rfl _ _ rfl w.heap.size (some ⟨g, 0, none⟩) k c' _ rfl (Row.alloc ho _) wr.heap.size 1 y rfl (by simp) (by omega) (by simp; omega) ?_; intro g2 c2 w2 hr2 hb2 hg2)
          rw [HS.out] at hr2
          go_roundw
          case rel => exact ⟨k + 1, g2, c2, rfl, by go_num, by omega, hr2, (hbr.alloc (by omega) _).trans hb2⟩
          case measure => simp [intOf]; omega
        · go_wp2_with fail
          go_ret
          have hke : k = ps.length := by omega
          subst hke
          refine ⟨g, c', rfl, ?_, hbr⟩
          rw [List.take_of_length_le (Nat.le_refl _)] at ho
          exact ho
theorem spec_l32Order_c (A B : Option Addr) (n c m d : Nat) (zs ps : List Int) (w : World) (hn : zs.length = n) (hm : ps.length = m) (hm' : m ≤ 1048576) (hr : RI w A zs) (hp : RI w B ps) (hps : Hid (∀ x ∈ ps, 0 ≤ x ∧ x < n)) :
    Calls Try.prog 133 #[.slice A n c, .slice B m d] w fun e w' => ∃ g c', e = .returned (.slice (some ⟨g, 0, none⟩) m c') ∧ OI w' w.heap.size w'.heap.size (some ⟨g, 0, none⟩) (orderL zs ps) ∧ Below w.heap.size w w' := by
  refine (spec_l32Order_r A B n c m d zs ps w hn hm hm' hr hp hps).mono ?_
  rintro e w' ⟨g, c', rfl, h, hb⟩
  exact ⟨g, c', rfl, h.oi, hb⟩

theorem impl_firstPass_c (B : Option Addr) (m d : Nat) (ps : List Int) (key : Int) (w : World) (hm : ps.length = m) (hm' : m ≤ 1048576) (hp : RI w B ps) (hps : Hid (∀ x ∈ ps, 0 ≤ x ∧ x ≤ 51)) (hk0 : 0 ≤ key) (hk1 : key ≤ 4000000000) :
    Calls Try.prog 124 #[.int .i64 key, .slice B m d] w fun e w' => ∃ g, e = .returned (.slice (some ⟨g, 0, none⟩) m m) ∧ OI w' w.heap.size w'.heap.size (some ⟨g, 0, none⟩) (firstL key ps) ∧ Below w.heap.size w w' := by
  subst hm
  obtain ⟨i0, hi, hz0, hz1, hz2⟩ := info_parts info_int
  rcases hp.split with h0 | ⟨b, off, rfl, hb, hc⟩
  all_goals
    go_enter Try.func124, Try.ntmps124
    go_wp2_with (at_make; refine wpList_make_full _ rfl _ _ _ rfl w.heap.size 2 i0 _ 1 Try.underlying22 hi hz0 hz1 _ _ _ _ ps.length rfl rfl rfl rfl (by rw [hz2]; omega) (by unfold maxLen; omega) (Nat.le_refl _) ?_; intro w1 hown1 hg1)
    have hz' := (hown1.lt _ rfl).2
    rw [Nat.mul_one, show (Value.int IntKind.i64 0).cells = #[Value.int IntKind.i64 0] from rfl, toList_madeCells_one, show List.replicate ps.length (Value.int IntKind.i64 0) = (List.replicate ps.length (0 : Int)).map (.int .i64) from by simp] at hown1
    have ho1 := OI.of_row hown1
    have hb1 : Below w.heap.size w w1 := (Below.refl _ _).grown hg1 (Nat.le_refl _) (by simp)
    clear hown1 hg1 hi hz0 hz1 hz2
    go_loopw [13] (fun i wr => ∃ k : Nat, i = .int .i64 k ∧ k ≤ ps.length ∧ w1.heap.size ≤ wr.heap.size ∧ OI wr w.heap.size w1.heap.size (some ⟨w.heap.size, 0, none⟩) ((ps.take k).map (fun x => pw (codeI x) key) ++ List.replicate (ps.length - k) 0) ∧ Below w.heap.size w wr) (fun i _ => ps.length - (intOf i).toNat)
    case atStart => exact ⟨0, rfl, Nat.zero_le _, Nat.le_refl _, by simpa using ho1, hb1⟩
    case round =>
      obtain ⟨k, rfl, hk, hsz, ho, hbr⟩ := hrel
      by_cases hlt : k < ps.length
      · first
          | (exfalso; omega; done)
          | (obtain ⟨x, hx⟩ := get_some hlt
             have hcx := (hbr.cell (p := ⟨b, off + k, none⟩) hb).trans (hc.out k x hx)
             obtain ⟨hx0, hx1⟩ := hps.out x (List.mem_of_getElem? hx)
             obtain ⟨hy0, hy1⟩ := codeI_range x hx0 hx1
             obtain ⟨⟨y, hg1⟩, hg2⟩ := OI.at_ ho (j := k) (by simp; omega)
             have hset := OI.set ho (j := k) (by simp; omega) (pw (codeI x) key)
             rw [map_set_step (fun x => pw (codeI x) key) ps _ k x rfl hlt hx] at hset
             rw [Nat.zero_add] at hg1 hg2 hset
             have HX := Lib.hid hx
             clear hx
             go_wp2_with (first
               | (go_at_call 141; refine (impl_powerModulo_c _ _ _ (by omega) (by omega) (by omega) (by omega)).mono ?_; rintro e w' ⟨rfl, rfl⟩)
               | (go_at_call 169; refine (impl_codeOf_c _ _ (by omega) (by omega)).mono ?_; rintro e w' ⟨rfl, rfl⟩))
             go_roundw
             case rel => exact ⟨k + 1, by go_num, by omega, by simpa [World.setCell] using hsz, hset, hbr.setCell (Nat.le_refl _) _⟩
             case measure => simp [intOf]; omega)
      · go_wp2_with fail
        go_ret
        refine ⟨_, rfl, ?_, hbr⟩
        rw [List.take_of_length_le (by omega), show ps.length - k = 0 from by omega, List.replicate_zero, List.append_nil] at ho
        exact ho.widen (Nat.le_refl _) hsz

theorem impl_secondPass_c (A B : Option Addr) (n c m d : Nat) (zs ps : List Int) (key : Int) (w : World) (hn : zs.length = n) (hm : ps.length = m) (hn' : n ≤ 1048576) (hm' : m ≤ 1048576) (hr : RI w A zs) (hp : RI w B ps) (hps : Hid (∀ x ∈ ps, 0 ≤ x ∧ x < n)) (hz : Hid (∀ x ∈ zs, 0 ≤ x ∧ x ≤ 2038)) (hk0 : 0 ≤ key) (hk1 : key ≤ 4000000000) :
    Calls Try.prog 131 #[.slice A n c, .int .i64 key, .slice B m d] w fun e w' => ∃ g, e = .returned (.slice (some ⟨g, 0, none⟩) m m) ∧ OI w' w.heap.size w'.heap.size (some ⟨g, 0, none⟩) (orderL (maskL zs key) ps) ∧ Below w.heap.size w w' := by
  subst hm
  have hml : (maskL zs key).length = n := by unfold maskL; rw [List.length_map]; exact hn
  have HML := Lib.hid hml
  clear hml
  obtain ⟨i0, hi, hz0, hz1, hz2⟩ := info_parts info_int
  rcases hp.split with h0 | ⟨b, off, rfl, hb, hc⟩
  all_goals
    go_enter Try.func131, Try.ntmps131
    go_wp2_with (first
      | (go_at_call 176; refine (impl_masked_c _ n _ zs _ _ hn hn' hr hz hk0 hk1).mono ?_; rintro e w0 ⟨g0, rfl, hm0, hb0⟩; have hs0 := hb0.size)
      | (at_make; refine wpList_make_full _ rfl _ _ _ rfl w.heap.size 2 i0 _ 1 Try.underlying22 hi hz0 hz1 _ _ _ _ ps.length rfl rfl rfl rfl (by rw [hz2]; omega) (by unfold maxLen; omega) hs0 ?_; intro w1 hown1 hg1))
    have hz' := (hown1.lt _ rfl).2
    rw [Nat.mul_one, show (Value.int IntKind.i64 0).cells = #[Value.int IntKind.i64 0] from rfl, toList_madeCells_one, show List.replicate ps.length (Value.int IntKind.i64 0) = (List.replicate ps.length (0 : Int)).map (.int .i64) from by simp] at hown1
    have ho1 := OI.of_row hown1
    have hb1 : Below w0.heap.size w0 w1 := (Below.refl _ _).grown hg1 (Nat.le_refl _) (by simp)
    have hbw1 : Below w.heap.size w w1 := below_step hb0 hb1 hs0
    have hm1 := hm0.ri.below hb1
    clear hown1 hg1 hi hz0 hz1 hz2
    go_loopw [19] (fun i wr => ∃ k : Nat, i = .int .i64 k ∧ k ≤ ps.length ∧ w1.heap.size ≤ wr.heap.size ∧ OI wr w.heap.size w1.heap.size (some ⟨w0.heap.size, 0, none⟩) ((ps.take k).map (fun x => (maskL zs key).getD x.toNat 0) ++ List.replicate (ps.length - k) 0) ∧ Below w0.heap.size w0 wr) (fun i _ => ps.length - (intOf i).toNat)
    case atStart => exact ⟨0, rfl, Nat.zero_le _, Nat.le_refl _, by simpa using ho1, hb1⟩
    case round =>
      obtain ⟨k, rfl, hk, hsz, ho, hbr⟩ := hrel
      by_cases hlt : k < ps.length
      · first
          | (exfalso; omega; done)
          | (obtain ⟨x, hx⟩ := get_some hlt
             have hcx := ((hbr.mono hs0).cell (p := ⟨b, off + k, none⟩) hb).trans ((hb0.cell (p := ⟨b, off + k, none⟩) hb).trans (hc.out k x hx))
             obtain ⟨hx0, hx1⟩ := hps.out x (List.mem_of_getElem? hx)
             obtain ⟨v, hv⟩ := get_some (zs := maskL zs key) (k := x.toNat) (by rw [HML.out]; omega)
             rcases hm0 with hmn | ⟨b2, off2, hA2, _, _, hlt2, hcell2, _⟩
             · rw [hmn] at hv; simp at hv
             · injection hA2 with hA2; injection hA2 with hA2 hA3; subst hA2 hA3
               have hcv := (hbr.cell (p := ⟨g0, 0 + x.toNat, none⟩) hlt2).trans (hcell2 x.toNat v hv)
               obtain ⟨⟨y, hg1⟩, hg2⟩ := OI.at_ ho (j := k) (by simp; omega)
               have hset := OI.set ho (j := k) (by simp; omega) ((maskL zs key).getD x.toNat 0)
               rw [map_set_step (fun x => (maskL zs key).getD x.toNat 0) ps _ k x rfl hlt hx] at hset
               rw [getD_of_get hv] at hset
               rw [Nat.zero_add] at hg1 hg2 hset hcv
               have hset := Lib.hid hset
               clear hx hv hcell2
               go_wp2_with fail
               go_roundw
               case rel => exact ⟨k + 1, by go_num, by omega, by simpa [World.setCell] using hsz, hset.out, hbr.setCell (Nat.le_refl _) _⟩
               case measure => simp [intOf]; omega)
      · go_wp2_with fail
        go_ret
        refine ⟨_, rfl, ?_, hb0.trans (hbr.mono hs0)⟩
        rw [List.take_of_length_le (by omega), show ps.length - k = 0 from by omega, List.replicate_zero, List.append_nil] at ho
        exact ho.widen (Nat.le_refl _) hsz
end Go.Proofs.Ythpgkngkmmameaa
