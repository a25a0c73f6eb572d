/-
  The contracts of AreCards and IsDeck, in the program (a set of bits) and in the reference (a row of bools). Conditions: at most 1048576 elements.
-/
import Derived.Test.YthpgkngkmmameaaLaw
import Derived.Test.YthpgkngkmmameaaPlainCards
import Derived.Test.YthpgkngkmmameaaCardOne
namespace Go.Proofs.Ythpgkngkmmameaa
open Go.RowKit
set_option linter.unusedVariables false

theorem info_bool : (Try.prog.info? 4).map (fun i => (i.zero, i.size, i.bytes)) = some (some (.bool false), 1, 1) := by kernel_rfl
theorem bit_test (S n : Nat) (hS : S < 2 ^ 52) : (bits .and .u64 ((S : Int) / 2 ^ n) 1 == 1) = S.testBit n := by
  have h1 : (S : Int) / 2 ^ n = ((S / 2 ^ n : Nat) : Int) := by
    rw [Int.natCast_ediv, Int.natCast_pow]; rfl
  have hlt : S / 2 ^ n < 18446744073709551616 := by
    have := Nat.div_le_self S (2 ^ n)
    omega
  rw [h1, show (1 : Int) = ((1 : Nat) : Int) from rfl, u64_and_nat _ _ hlt (by omega), Nat.and_one_is_mod, bit_shift]
  cases S.testBit n <;> rfl
theorem bit_or (S n : Nat) (hS : S < 2 ^ 52) (hn : n < 52) : bits .or .u64 (S : Int) (IntKind.u64.wrap (2 ^ n)) = ((S ||| 2 ^ n : Nat) : Int) := by
  have hp : 2 ^ n < 2 ^ 52 := Nat.pow_lt_pow_right (by decide) hn
  have h2 : (2 : Int) ^ n = ((2 ^ n : Nat) : Int) := by rw [Int.natCast_pow]; rfl
  rw [h2]
  generalize 2 ^ n = p at hp ⊢
  rw [IntKind.wrap_u64, Int.emod_eq_of_lt (by omega) (by omega), u64_or_nat _ _ (by omega) (by omega)]

theorem impl_AreCards_c (A : Option Addr) (n c : Nat) (zs : List Int) (w : World) (hn : zs.length = n) (hm : n ≤ 1048576) (hr : RI w A zs) :
    Calls Try.prog 183 #[.slice A n c] w fun e w' => e = .returned (.bool (cardsB zs)) ∧ w = w' := by
  subst hn
  rcases hr.split with h0 | ⟨b, off, rfl, hb, hc⟩
  all_goals
    go_enter Try.func183, Try.ntmps183
    go_wp2_with fail
    go_loop [3, 8] (fun s i => ∃ (S k : Nat), s = .int .u64 S ∧ i = .int .i64 k ∧ k ≤ zs.length ∧ goodL (zs.take k) ∧ bitsOf S (zs.take k)) (fun _ i => zs.length - (intOf i).toNat)
    case atStart => exact ⟨0, 0, rfl, rfl, Nat.zero_le _, goodL_nil, bits_zero⟩
    case round =>
      obtain ⟨S, k, rfl, rfl, hk, hg, hS⟩ := hrel
      by_cases hlt : k < zs.length
      · first
          | (exfalso; omega; done)
          | (obtain ⟨x, hx⟩ := get_some hlt
             have hcx := hc.out k x hx
             have hb1 := bit_test S x.toNat hS.1
             cases hin : inB x 0 51
             · have HX := Lib.hid (cardsB_out hx hin)
               clear hx hb1
               go_wp2_with (go_at_call 191; refine (impl_isCard_c _ _).mono ?_; rintro e w' ⟨rfl, rfl⟩)
               go_ret
               exact ⟨ret_bool HX.out.symm, rfl⟩
             · obtain ⟨x0, x1⟩ := inB_iff.1 hin
               have hbx := hS.2 x.toNat (by omega)
               rw [show ((x.toNat : Nat) : Int) = x from by omega] at hbx
               by_cases hmem : x ∈ zs.take k
               · have HX := Lib.hid (cardsB_twice hx hmem)
                 rw [hbx, decide_eq_true hmem] at hb1
                 clear hx hmem hbx
                 go_wp2_with (go_at_call 191; refine (impl_isCard_c _ _).mono ?_; rintro e w' ⟨rfl, rfl⟩)
                 go_ret
                 exact ⟨ret_bool HX.out.symm, rfl⟩
               · have HG := Lib.hid (goodL_step hx hg hin hmem)
                 have HB := Lib.hid (bits_step hx hS x0 x1)
                 have ho := bit_or S x.toNat hS.1 (by omega)
                 rw [hbx, decide_eq_false hmem] at hb1
                 have HO := Lib.hid ho
                 clear hx hmem hbx ho
                 go_wp2_with (go_at_call 191; refine (impl_isCard_c _ _).mono ?_; rintro e w' ⟨rfl, rfl⟩)
                 go_round
                 case rel => exact ⟨_, k + 1, by rw [HO.out], by go_num, by omega, HG.out, HB.out⟩
                 case measure => simp [intOf]; omega)
      · have HX := Lib.hid (cardsB_done hlt hg)
        go_wp2_with fail
        go_ret
        exact ⟨ret_bool HX.out.symm, rfl⟩

/-- A row of 52 bools: which numbers have been met. -/
def boolsAt (w : World) (g : Nat) (L : List Int) : Prop := ∀ c : Nat, c < 52 → w.cell? ⟨g, c, none⟩ = some (.bool (decide ((c : Int) ∈ L))) ∧ w.frozen? ⟨g, c, none⟩ = false
theorem boolsAt_set {w : World} {g : Nat} {zs : List Int} {k : Nat} {x : Int} (hx : zs[k]? = some x) (h : boolsAt w g (zs.take k)) (h0 : 0 ≤ x) (h1 : x ≤ 51) : boolsAt (w.setCell ⟨g, x.toNat, none⟩ (.bool true)) g (zs.take (k + 1)) := by
  intro c hc
  have hm := mem_step hx (c : Int)
  refine ⟨?_, by simpa using (h c hc).2⟩
  by_cases hcx : (c : Int) = x
  · have e : x.toNat = c := by omega
    have hin : (c : Int) ∈ zs.take (k + 1) := hm.2 (.inr hcx)
    rw [e, World.cell?_setCell_same w _ _ (h c hc).1, decide_eq_true hin]
  · rw [World.cell?_setCell_other _ _ _ _ (fun e => by injection e; omega), (h c hc).1]
    have : decide ((c : Int) ∈ zs.take (k + 1)) = decide ((c : Int) ∈ zs.take k) := by
      by_cases hin : (c : Int) ∈ zs.take k
      · rw [decide_eq_true hin, decide_eq_true (hm.2 (.inl hin))]
      · rw [decide_eq_false hin, decide_eq_false (fun h => by rcases hm.1 h with h | h <;> contradiction)]
    rw [this]

theorem spec_AreCards_c (A : Option Addr) (n c : Nat) (zs : List Int) (w : World) (hn : zs.length = n) (hm : n ≤ 1048576) (hr : RI w A zs) :
    Calls Try.prog 170 #[.slice A n c] w fun e w' => e = .returned (.bool (cardsB zs)) ∧ Below w.heap.size w w' := by
  subst hn
  obtain ⟨i0, hi, hz0, hz1, hz2⟩ := info_parts info_bool
  rcases hr.split with h0 | ⟨b, off, rfl, hb, hc⟩
  all_goals
    go_enter Try.func170, Try.ntmps170
    go_wp2_with (at_make; refine wpList_make_full _ rfl _ _ _ rfl w.heap.size 4 i0 _ 1 Try.underlying111 hi hz0 hz1 _ _ _ _ 52 rfl rfl rfl rfl (by rw [hz2]; omega) (by unfold maxLen; omega) (Nat.le_refl _) ?_; intro w1 hown1 hg1)
    have hb1 : Below w.heap.size w w1 := (Below.refl _ _).grown hg1 (Nat.le_refl _) (by simp)
    have hs1 : boolsAt w1 w.heap.size [] := by
      intro j hj
      refine ⟨?_, hown1.frozenAt j⟩
      rw [hown1.cellAt j (by omega), Nat.mul_one, show (Value.bool false).cells = #[Value.bool false] from rfl, toList_madeCells_one, List.getElem?_replicate, if_pos hj]
      simp
    clear hown1 hg1 hi hz0 hz1 hz2
    go_loopw [4] (fun i wr => ∃ k : Nat, i = .int .i64 k ∧ k ≤ zs.length ∧ goodL (zs.take k) ∧ boolsAt wr w.heap.size (zs.take k) ∧ Below w.heap.size w wr) (fun i _ => zs.length - (intOf i).toNat)
    case atStart => exact ⟨0, rfl, Nat.zero_le _, goodL_nil, hs1, hb1⟩
    case round =>
      obtain ⟨k, rfl, hk, hg, hS, hbr⟩ := hrel
      by_cases hlt : k < zs.length
      · first
          | (exfalso; omega; done)
          | (obtain ⟨x, hx⟩ := get_some hlt
             have hcx := (hbr.cell (p := ⟨b, off + k, none⟩) hb).trans (hc.out k x hx)
             cases hin : inB x 0 51
             · have HX := Lib.hid (cardsB_out hx hin)
               clear hx
               go_wp2_with (go_at_call 184; refine (spec_l02Card_c _ _).mono ?_; rintro e w' ⟨rfl, rfl⟩)
               go_ret
               exact ⟨ret_bool HX.out.symm, hbr⟩
             · obtain ⟨x0, x1⟩ := inB_iff.1 hin
               obtain ⟨hcc, hcf⟩ := hS x.toNat (by omega)
               rw [show ((x.toNat : Nat) : Int) = x from by omega] at hcc
               by_cases hmem : x ∈ zs.take k
               · have HX := Lib.hid (cardsB_twice hx hmem)
                 rw [decide_eq_true hmem] at hcc
                 clear hx hmem
                 go_wp2_with (go_at_call 184; refine (spec_l02Card_c _ _).mono ?_; rintro e w' ⟨rfl, rfl⟩)
                 go_ret
                 exact ⟨ret_bool HX.out.symm, hbr⟩
               · have HG := Lib.hid (goodL_step hx hg hin hmem)
                 have HB := Lib.hid (boolsAt_set hx hS x0 x1)
                 rw [decide_eq_false hmem] at hcc
                 clear hx hmem
                 go_wp2_with (go_at_call 184; refine (spec_l02Card_c _ _).mono ?_; rintro e w' ⟨rfl, rfl⟩)
                 go_roundw
                 case rel => exact ⟨k + 1, by go_num, by omega, HG.out, HB.out, hbr.setCell (Nat.le_refl _) _⟩
                 case measure => simp [intOf]; omega)
      · have HX := Lib.hid (cardsB_done hlt hg)
        go_wp2_with fail
        go_ret
        exact ⟨ret_bool HX.out.symm, hbr⟩

def deckB (zs : List Int) : Bool := decide (zs.length = 52) && cardsB zs
theorem impl_IsDeck_c (A : Option Addr) (n c : Nat) (zs : List Int) (w : World) (hn : zs.length = n) (hm : n ≤ 1048576) (hr : RI w A zs) :
    Calls Try.prog 168 #[.slice A n c] w fun e w' => e = .returned (.bool (deckB zs)) ∧ Below w.heap.size w w' := by
  subst hn
  by_cases h52 : zs.length = 52
  · have h2 : ((zs.length : Int) == 52) = true := by simp [h52]
    have HD := Lib.hid (show deckB zs = cardsB zs by simp [deckB, h52])
    clear h52
    go_enter Try.func168, Try.ntmps168
    go_wp2_with (go_at_call 183; refine (impl_AreCards_c _ _ _ zs _ rfl hm hr).mono ?_; rintro e w' ⟨rfl, rfl⟩)
    go_ret
    exact ⟨ret_bool HD.out.symm, Below.refl _ _⟩
  · have h2 : ((zs.length : Int) == 52) = false := by simp; omega
    have HD := Lib.hid (show deckB zs = false by simp [deckB, h52])
    clear h52
    go_enter Try.func168, Try.ntmps168
    go_wp2_with (go_at_call 183; refine (impl_AreCards_c _ _ _ zs _ rfl hm hr).mono ?_; rintro e w' ⟨rfl, rfl⟩)
    go_ret
    exact ⟨ret_bool HD.out.symm, Below.refl _ _⟩
theorem impl_isOrder_c (A : Option Addr) (n c : Nat) (zs : List Int) (w : World) (hn : zs.length = n) (hm : n ≤ 1048576) (hr : RI w A zs) :
    Calls Try.prog 123 #[.slice A n c] w fun e w' => e = .returned (.bool (deckB zs)) ∧ Below w.heap.size w w' := by
  go_enter Try.func123, Try.ntmps123
  go_wp2_with (go_at_call 168; refine (impl_IsDeck_c _ _ _ zs _ hn hm hr).mono ?_; rintro e w' ⟨rfl, hb0⟩)
  go_ret
  exact ⟨rfl, hb0⟩
theorem spec_IsDeck_c (A : Option Addr) (n c : Nat) (zs : List Int) (w : World) (hn : zs.length = n) (hm : n ≤ 1048576) (hr : RI w A zs) :
    Calls Try.prog 126 #[.slice A n c] w fun e w' => e = .returned (.bool (deckB zs)) ∧ Below w.heap.size w w' := by
  subst hn
  by_cases h52 : zs.length = 52
  · have h2 : ((zs.length : Int) == 52) = true := by simp [h52]
    cases hcb : cardsB zs
    all_goals
      have HD := Lib.hid (show deckB zs = cardsB zs by simp [deckB, h52])
      clear h52
      go_enter Try.func126, Try.ntmps126
      go_wp2_with (go_at_call 170; refine (spec_AreCards_c _ _ _ zs _ rfl hm hr).mono ?_; rintro e w1 ⟨rfl, hb0⟩)
      go_ret
      exact ⟨ret_bool (by rw [HD.out, hcb]), hb0⟩
  · have h2 : ((zs.length : Int) == 52) = false := by simp; omega
    cases hcb : cardsB zs
    all_goals
      have HD := Lib.hid (show deckB zs = false by simp [deckB, h52])
      clear h52
      go_enter Try.func126, Try.ntmps126
      go_wp2_with (go_at_call 170; refine (spec_AreCards_c _ _ _ zs _ rfl hm hr).mono ?_; rintro e w1 ⟨rfl, hb0⟩)
      go_ret
      exact ⟨ret_bool HD.out.symm, hb0⟩
end Go.Proofs.Ythpgkngkmmameaa
