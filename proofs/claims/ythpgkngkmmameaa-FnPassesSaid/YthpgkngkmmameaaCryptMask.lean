/-
  The contracts of masked and l32Mask: each element to the power of the key. Conditions: elements in 0..2038, the key in 0..4000000000.
-/
import Derived.Test.YthpgkngkmmameaaCryptList
namespace Go.Proofs.Ythpgkngkmmameaa
open Go.RowKit
set_option linter.unusedVariables false

def maskL (zs : List Int) (key : Int) : List Int := zs.map fun x => pw x key
theorem map_set_step (f : Int → Int) (zs : List Int) (n k : Nat) (x : Int) (hn : zs.length = n) (hk : k < n) (hx : zs[k]? = some x) :
    ((zs.take k).map f ++ List.replicate (n - k) 0).set k (f x) = (zs.take (k + 1)).map f ++ List.replicate (n - (k + 1)) 0 := by
  have hl : ((zs.take k).map f).length = k := by rw [List.length_map, List.length_take]; omega
  rw [List.set_append_right _ _ (by omega), hl, Nat.sub_self]
  rw [show n - k = (n - (k + 1)) + 1 from by omega, List.replicate_succ, List.set_cons_zero]
  rw [List.take_add_one, hx]
  simp
theorem map_app_step (f : Int → Int) (zs : List Int) (k : Nat) (x : Int) (hx : zs[k]? = some x) : (zs.take k).map f ++ [f x] = (zs.take (k + 1)).map f := by
  rw [List.take_add_one, hx]; simp

theorem impl_masked_c (A : Option Addr) (n c : Nat) (zs : List Int) (key : Int) (w : World) (hn : zs.length = n) (hm : n ≤ 1048576) (hr : RI w A zs) (hz : Hid (∀ x ∈ zs, 0 ≤ x ∧ x ≤ 2038)) (hk0 : 0 ≤ key) (hk1 : key ≤ 4000000000) :
    Calls Try.prog 176 #[.slice A n c, .int .i64 key] w fun e w' => ∃ g, e = .returned (.slice (some ⟨g, 0, none⟩) n n) ∧ OI w' w.heap.size w'.heap.size (some ⟨g, 0, none⟩) (maskL zs key) ∧ Below w.heap.size w w' := by
  subst hn
  obtain ⟨i0, hi, hz0, hz1, hz2⟩ := info_parts info_int
  rcases hr.split with h0 | ⟨b, off, rfl, hb, hc⟩
  all_goals
    go_enter Try.func176, Try.ntmps176
    go_wp2_with (at_make; refine wpList_make_full _ rfl _ _ _ rfl w.heap.size 2 i0 _ 1 Try.underlying22 hi hz0 hz1 _ _ _ _ zs.length rfl rfl rfl rfl (by rw [hz2]; omega) (by unfold maxLen; omega) (Nat.le_refl _) ?_; intro w1 hown1 hg1)
    have hz' := (hown1.lt _ rfl).2
    rw [Nat.mul_one, show (Value.int IntKind.i64 0).cells = #[Value.int IntKind.i64 0] from rfl, toList_madeCells_one, show List.replicate zs.length (Value.int IntKind.i64 0) = (List.replicate zs.length (0 : Int)).map (.int .i64) from by simp] at hown1
    have ho1 := OI.of_row hown1
    have hb1 : Below w.heap.size w w1 := (Below.refl _ _).grown hg1 (Nat.le_refl _) (by simp)
    clear hown1 hg1 hi hz0 hz1 hz2
    go_loopw [13] (fun i wr => ∃ k : Nat, i = .int .i64 k ∧ k ≤ zs.length ∧ w1.heap.size ≤ wr.heap.size ∧ OI wr w.heap.size w1.heap.size (some ⟨w.heap.size, 0, none⟩) ((zs.take k).map (fun x => pw x key) ++ List.replicate (zs.length - k) 0) ∧ Below w.heap.size w wr) (fun i _ => zs.length - (intOf i).toNat)
    case atStart => exact ⟨0, rfl, Nat.zero_le _, Nat.le_refl _, by simpa using ho1, hb1⟩
    case round =>
      obtain ⟨k, rfl, hk, hsz, ho, hbr⟩ := hrel
      by_cases hlt : k < zs.length
      · first
          | (exfalso; omega; done)
          | (obtain ⟨x, hx⟩ := get_some hlt
             have hcx := (hbr.cell (p := ⟨b, off + k, none⟩) hb).trans (hc.out k x hx)
             obtain ⟨hx0, hx1⟩ := hz.out x (List.mem_of_getElem? hx)
             obtain ⟨⟨y, hg1⟩, hg2⟩ := OI.at_ ho (j := k) (by simp; omega)
             have hset := OI.set ho (j := k) (by simp; omega) (pw x key)
             rw [map_set_step (fun x => pw x key) zs _ k x rfl hlt hx] at hset
             rw [Nat.zero_add] at hg1 hg2 hset
             have HX := Lib.hid hx
             clear hx
             go_wp2_with (go_at_call 141; refine (impl_powerModulo_c _ _ _ (by omega) (by omega) (by omega) (by omega)).mono ?_; rintro e w' ⟨rfl, rfl⟩)
             go_roundw
             case rel => exact ⟨k + 1, by go_num, by omega, by simpa [World.setCell] using hsz, hset, hbr.setCell (Nat.le_refl _) _⟩
             case measure => simp [intOf]; omega)
      · go_wp2_with fail
        go_ret
        refine ⟨_, rfl, ?_, hbr⟩
        rw [List.take_of_length_le (by omega), show zs.length - k = 0 from by omega, List.replicate_zero, List.append_nil] at ho
        exact ho.widen (Nat.le_refl _) hsz

theorem spec_l32Mask_c (A : Option Addr) (n c : Nat) (zs : List Int) (key : Int) (w : World) (hn : zs.length = n) (hm : n ≤ 1048576) (hr : RI w A zs) (hz : Hid (∀ x ∈ zs, 0 ≤ x ∧ x ≤ 2038)) (hk0 : 0 ≤ key) (hk1 : key ≤ 4000000000) :
    Calls Try.prog 134 #[.slice A n c, .int .i64 key] w fun e w' => ∃ g c', e = .returned (.slice (some ⟨g, 0, none⟩) n c') ∧ OI w' w.heap.size w'.heap.size (some ⟨g, 0, none⟩) (maskL zs key) ∧ Below w.heap.size w w' := by
  subst hn
  rcases hr.split with h0 | ⟨b, off, rfl, hb, hc⟩
  all_goals
    go_enter Try.func134, Try.ntmps134
    go_wp2_with fail
    go_loopw [5, 6] (fun o i wr => ∃ k g c', o = .slice (some ⟨g, 0, none⟩) k c' ∧ i = .int .i64 (k : Nat) ∧ k ≤ zs.length ∧ Row wr w.heap.size (some ⟨g, 0, none⟩) k c' ((zs.take k).map (fun x => pw x key)) ∧ Below w.heap.size w wr) (fun _ i _ => zs.length - (intOf i).toNat)
    case atStart => exact ⟨0, _, _, rfl, rfl, Nat.zero_le _, by simpa using Row.empty w (Nat.le_refl _), (Below.refl _ _).alloc (Nat.le_refl _) _⟩
    case round =>
      obtain ⟨k, g, c', rfl, rfl, hk, ho, hbr⟩ := hrel
      by_cases hlt : k < zs.length
      · first
          | (exfalso; omega; done)
          | (obtain ⟨x, hx⟩ := get_some hlt
             have hcx := (hbr.cell (p := ⟨b, off + k, none⟩) hb).trans (hc.out k x hx)
             obtain ⟨hx0, hx1⟩ := hz.out x (List.mem_of_getElem? hx)
             have hsz := hbr.size
             have hst := map_app_step (fun x => pw x key) zs k x hx
             have HS := Lib.hid hst
             have HX := Lib.hid hx
             clear hx hst
             go_wp2_with (first
               | (go_at_call 178; refine (spec_l32Power_c _ _ _ (by omega) (by omega) (by omega) (by omega)).mono ?_; rintro e w' ⟨rfl, rfl⟩)
               | (at_builtin; refine wpList_append1 rfl _ _ rfl w.heap.size (some ⟨g, 0, none⟩) k c' _ rfl (Row.alloc ho _) wr.heap.size 1 (pw x key) rfl (by simp) (by omega) (by simp; omega) ?_; intro g2 c2 w2 hr2 hb2 hg2))
             rw [HS.out] at hr2
             go_roundw
             case rel => exact ⟨k + 1, g2, c2, rfl, by go_num, by omega, hr2, (hbr.alloc (by omega) _).trans hb2⟩
             case measure => simp [intOf]; omega)
      · go_wp2_with fail
        go_ret
        have hke : k = zs.length := by omega
        subst hke
        refine ⟨g, c', rfl, ?_, hbr⟩
        rw [List.take_of_length_le (Nat.le_refl _)] at ho
        exact ho.oi
end Go.Proofs.Ythpgkngkmmameaa
