/-
  The contracts of AuditDeal. Conditions: at most 1048576 elements.
-/
import Derived.Test.YthpgkngkmmameaaCryptEnd
namespace Go.Proofs.Ythpgkngkmmameaa
open Go.RowKit
set_option linter.unusedVariables false
theorem ret_bi {k : IntKind} {a b : Bool} {c d : Int} (h : a = b) (h' : c = d) : Ending.returned (.tuple #[.bool a, .int k c]) = .returned (.tuple #[.bool b, .int k d]) := by rw [h, h']
theorem impl_AuditDeal_c (a : Int) (A : Option Addr) (n c : Nat) (ps : List Int) (b : Int) (B : Option Addr) (m d : Nat) (qs : List Int) (C : Option Addr) (l f : Nat) (zs : List Int) (w : World) (hn : ps.length = n) (hn1 : n ≤ 1048576) (hr : RI w A ps) (hm : qs.length = m) (hm1 : m ≤ 1048576) (hs : RI w B qs) (hl : zs.length = l) (hl1 : l ≤ 1048576) (ht : RI w C zs) :
    Calls Try.prog 77 #[.int .i64 a, .slice A n c, .int .i64 b, .slice B m d, .slice C l f] w fun e w' => e = .returned (.tuple #[.bool (audV a ps b qs zs), .int .i64 (audE a ps b qs)]) ∧ Below w.heap.size w w' := by
  have hn := Lib.hid hn
  have hm := Lib.hid hm
  have hl := Lib.hid hl
  cases h1 : inB a 1 1018
  · have HV := Lib.hid (show audV a ps b qs zs = false by simp [audV, audOk, h1])
    have HE := Lib.hid (show audE a ps b qs = 2 by simp [audE, audOk, h1])
    go_enter Try.func77, Try.ntmps77
    go_wp2_with (go_at_call 122; refine (impl_isKey_c _ _).mono ?_; rintro e w' ⟨rfl, rfl⟩)
    go_ret2
    exact ⟨ret_bi HV.out.symm HE.out.symm, Below.refl _ _⟩
  cases h2 : inB b 1 1018
  · have HV := Lib.hid (show audV a ps b qs zs = false by simp [audV, audOk, h2])
    have HE := Lib.hid (show audE a ps b qs = 2 by simp [audE, audOk, h2])
    go_enter Try.func77, Try.ntmps77
    go_wp2_with (go_at_call 122; refine (impl_isKey_c _ _).mono ?_; rintro e w' ⟨rfl, rfl⟩)
    go_ret2
    exact ⟨ret_bi HV.out.symm HE.out.symm, Below.refl _ _⟩
  obtain ⟨a0, a1⟩ := inB_iff.1 h1
  obtain ⟨b0, b1⟩ := inB_iff.1 h2
  cases h3 : deckB ps
  · have HV := Lib.hid (show audV a ps b qs zs = false by simp [audV, audOk, h3])
    have HE := Lib.hid (show audE a ps b qs = 2 by simp [audE, audOk, h3])
    go_enter Try.func77, Try.ntmps77
    go_wp2_with (go_at_call 122; refine (impl_isKey_c _ _).mono ?_; rintro e w' ⟨rfl, rfl⟩)
    refine (impl_isOrder_c _ _ _ ps _ hn.out hn1 hr).mono ?_
    rintro e w1 ⟨rfl, d1⟩
    go_wp2_with fail
    go_ret2
    exact ⟨ret_bi HV.out.symm HE.out.symm, d1⟩
  cases h4 : deckB qs
  · have HV := Lib.hid (show audV a ps b qs zs = false by simp [audV, audOk, h4])
    have HE := Lib.hid (show audE a ps b qs = 2 by simp [audE, audOk, h4])
    go_enter Try.func77, Try.ntmps77
    go_wp2_with (go_at_call 122; refine (impl_isKey_c _ _).mono ?_; rintro e w' ⟨rfl, rfl⟩)
    refine (impl_isOrder_c _ _ _ ps _ hn.out hn1 hr).mono ?_
    rintro e w1 ⟨rfl, d1⟩
    have s1 := d1.size
    go_wp2_with fail
    refine (impl_isOrder_c _ _ _ qs _ hm.out hm1 (hs.below d1)).mono ?_
    rintro e w2 ⟨rfl, d2⟩
    go_wp2_with fail
    go_ret2
    exact ⟨ret_bi HV.out.symm HE.out.symm, below_step d1 d2 s1⟩
  have HV := Lib.hid (show audV a ps b qs zs = decide (zs = orderL (maskL (firstL a ps) b) qs) by simp [audV, audOk, h1, h2, h3, h4])
  have HE := Lib.hid (show audE a ps b qs = 0 by simp [audE, audOk, h1, h2, h3, h4])
  have e1 := Lib.hid (deck_length h3)
  have e2 := Lib.hid (deck_length h4)
  have z1 := Lib.hid (deck_range h3)
  have z2 : Hid (∀ x ∈ qs, 0 ≤ x ∧ x < ((ps.length : Nat) : Int)) := fun x hx => by have := deck_range h4 x hx; have := e1.out; omega
  have z3 := Lib.hid (first_range a ps)
  go_enter Try.func77, Try.ntmps77
  go_wp2_with (go_at_call 122; refine (impl_isKey_c _ _).mono ?_; rintro e w' ⟨rfl, rfl⟩)
  refine (impl_isOrder_c _ _ _ ps _ hn.out hn1 hr).mono ?_
  rintro e w1 ⟨rfl, d1⟩
  have s1 := d1.size
  go_wp2_with fail
  refine (impl_isOrder_c _ _ _ qs _ hm.out hm1 (hs.below d1)).mono ?_
  rintro e w2 ⟨rfl, d2⟩
  have s2 := d2.size
  have D2 : Below w.heap.size w w2 := below_step d1 d2 s1
  go_wp2_with fail
  refine (impl_firstPass_c _ _ _ ps _ _ hn.out hn1 (hr.below D2) z1 (by omega) (by omega)).mono ?_
  rintro e w3 ⟨g3, rfl, o3, d3⟩
  have s3 := d3.size
  have D3 : Below w.heap.size w w3 := below_step D2 d3 (by omega)
  go_wp2_with fail
  refine (impl_secondPass_c _ _ n _ _ _ (firstL a ps) qs _ _ (by rw [first_len]; exact hn.out) hm.out hn1 hm1 o3.ri (hs.below D3) (fun x hx => by have := z2.out x hx; have := hn.out; omega) z3 (by omega) (by omega)).mono ?_
  rintro e w4 ⟨g4, rfl, o4, d4⟩
  have s4 := d4.size
  have D4 : Below w.heap.size w w4 := below_step D3 d4 (by omega)
  go_wp2_with fail
  refine (slices_Equal_c _ _ _ _ _ _ zs (orderL (maskL (firstL a ps) b) qs) _ hl.out (by rw [order_len]; exact hm.out) hl1 hm1 (ht.below D4) o4.ri).mono ?_
  rintro e w5 ⟨rfl, d5⟩
  go_wp2_with fail
  go_ret2
  exact ⟨ret_bi HV.out.symm HE.out.symm, below_step D4 d5 (by omega)⟩
theorem spec_AuditDeal_c (a : Int) (A : Option Addr) (n c : Nat) (ps : List Int) (b : Int) (B : Option Addr) (m d : Nat) (qs : List Int) (C : Option Addr) (l f : Nat) (zs : List Int) (w : World) (hn : ps.length = n) (hn1 : n ≤ 1048576) (hr : RI w A ps) (hm : qs.length = m) (hm1 : m ≤ 1048576) (hs : RI w B qs) (hl : zs.length = l) (hl1 : l ≤ 1048576) (ht : RI w C zs) :
    Calls Try.prog 78 #[.int .i64 a, .slice A n c, .int .i64 b, .slice B m d, .slice C l f] w fun e w' => e = .returned (.tuple #[.bool (audV a ps b qs zs), .int .i64 (audE a ps b qs)]) ∧ Below w.heap.size w w' := by
  have hn := Lib.hid hn
  have hm := Lib.hid hm
  have hl := Lib.hid hl
  cases h1 : inB a 1 1018
  · have HV := Lib.hid (show audV a ps b qs zs = false by simp [audV, audOk, h1])
    have HE := Lib.hid (show audE a ps b qs = 2 by simp [audE, audOk, h1])
    go_enter Try.func78, Try.ntmps78
    go_wp2_with (go_at_call 125; refine (spec_l32Key_c _ _).mono ?_; rintro e w' ⟨rfl, rfl⟩)
    go_ret2
    exact ⟨ret_bi HV.out.symm HE.out.symm, Below.refl _ _⟩
  cases h2 : inB b 1 1018
  · have HV := Lib.hid (show audV a ps b qs zs = false by simp [audV, audOk, h2])
    have HE := Lib.hid (show audE a ps b qs = 2 by simp [audE, audOk, h2])
    go_enter Try.func78, Try.ntmps78
    go_wp2_with (go_at_call 125; refine (spec_l32Key_c _ _).mono ?_; rintro e w' ⟨rfl, rfl⟩)
    go_ret2
    exact ⟨ret_bi HV.out.symm HE.out.symm, Below.refl _ _⟩
  obtain ⟨a0, a1⟩ := inB_iff.1 h1
  obtain ⟨b0, b1⟩ := inB_iff.1 h2
  cases h3 : deckB ps
  · have HV := Lib.hid (show audV a ps b qs zs = false by simp [audV, audOk, h3])
    have HE := Lib.hid (show audE a ps b qs = 2 by simp [audE, audOk, h3])
    go_enter Try.func78, Try.ntmps78
    go_wp2_with (go_at_call 125; refine (spec_l32Key_c _ _).mono ?_; rintro e w' ⟨rfl, rfl⟩)
    refine (spec_IsDeck_c _ _ _ ps _ hn.out hn1 hr).mono ?_
    rintro e w1 ⟨rfl, d1⟩
    go_wp2_with fail
    go_ret2
    exact ⟨ret_bi HV.out.symm HE.out.symm, d1⟩
  cases h4 : deckB qs
  · have HV := Lib.hid (show audV a ps b qs zs = false by simp [audV, audOk, h4])
    have HE := Lib.hid (show audE a ps b qs = 2 by simp [audE, audOk, h4])
    go_enter Try.func78, Try.ntmps78
    go_wp2_with (go_at_call 125; refine (spec_l32Key_c _ _).mono ?_; rintro e w' ⟨rfl, rfl⟩)
    refine (spec_IsDeck_c _ _ _ ps _ hn.out hn1 hr).mono ?_
    rintro e w1 ⟨rfl, d1⟩
    have s1 := d1.size
    go_wp2_with fail
    refine (spec_IsDeck_c _ _ _ qs _ hm.out hm1 (hs.below d1)).mono ?_
    rintro e w2 ⟨rfl, d2⟩
    go_wp2_with fail
    go_ret2
    exact ⟨ret_bi HV.out.symm HE.out.symm, below_step d1 d2 s1⟩
  have HV := Lib.hid (show audV a ps b qs zs = decide (zs = orderL (maskL (firstL a ps) b) qs) by simp [audV, audOk, h1, h2, h3, h4])
  have HE := Lib.hid (show audE a ps b qs = 0 by simp [audE, audOk, h1, h2, h3, h4])
  have e1 := Lib.hid (deck_length h3)
  have e2 := Lib.hid (deck_length h4)
  have z1 := Lib.hid (deck_range h3)
  have z2 : Hid (∀ x ∈ qs, 0 ≤ x ∧ x < ((ps.length : Nat) : Int)) := fun x hx => by have := deck_range h4 x hx; have := e1.out; omega
  have z3 := Lib.hid (first_range a ps)
  go_enter Try.func78, Try.ntmps78
  go_wp2_with (go_at_call 125; refine (spec_l32Key_c _ _).mono ?_; rintro e w' ⟨rfl, rfl⟩)
  refine (spec_IsDeck_c _ _ _ ps _ hn.out hn1 hr).mono ?_
  rintro e w1 ⟨rfl, d1⟩
  have s1 := d1.size
  go_wp2_with fail
  refine (spec_IsDeck_c _ _ _ qs _ hm.out hm1 (hs.below d1)).mono ?_
  rintro e w2 ⟨rfl, d2⟩
  have s2 := d2.size
  have D2 : Below w.heap.size w w2 := below_step d1 d2 s1
  go_wp2_with fail
  refine (spec_l32First_c _ _ _ ps _ _ hn.out hn1 (hr.below D2) z1 (by omega) (by omega)).mono ?_
  rintro e w3 ⟨g3, c3, rfl, o3, d3⟩
  have s3 := d3.size
  have D3 : Below w.heap.size w w3 := below_step D2 d3 (by omega)
  go_wp2_with fail
  refine (spec_l32Mask_c _ n _ (firstL a ps) _ _ (by rw [first_len]; exact hn.out) hn1 o3.ri z3 (by omega) (by omega)).mono ?_
  rintro e w4 ⟨g4, c4, rfl, o4, d4⟩
  have s4 := d4.size
  have D4 : Below w.heap.size w w4 := below_step D3 d4 (by omega)
  go_wp2_with fail
  refine (spec_l32Order_c _ _ n _ _ _ (maskL (firstL a ps) b) qs _ (by rw [mask_len, first_len]; exact hn.out) hm.out hm1 o4.ri (hs.below D4) (fun x hx => by have := z2.out x hx; have := hn.out; omega)).mono ?_
  rintro e w5 ⟨g5, c5, rfl, o5, d5⟩
  have s5 := d5.size
  have D5 : Below w.heap.size w w5 := below_step D4 d5 (by omega)
  go_wp2_with fail
  refine (spec_l01Same_c _ _ _ _ _ _ (orderL (maskL (firstL a ps) b) qs) zs _ (by rw [order_len]; exact hm.out) hl.out hm1 hl1 o5.ri (ht.below D5)).mono ?_
  rintro e w6 ⟨rfl, d6⟩
  go_wp2_with fail
  go_ret2
  exact ⟨ret_bi (by rw [HV.out]; exact decide_eq_decide.2 eq_comm) HE.out.symm, below_step D5 d6 (by omega)⟩
end Go.Proofs.Ythpgkngkmmameaa
