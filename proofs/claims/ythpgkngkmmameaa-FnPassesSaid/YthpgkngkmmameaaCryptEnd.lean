/-
  The contracts of MaskList, FirstPass, SecondPass, AuditDeal, in the program and in the reference. Conditions: at most 1048576 elements.
-/
import Derived.Test.YthpgkngkmmameaaCryptPass
import Derived.Test.YthpgkngkmmameaaCards
import Derived.Test.YthpgkngkmmameaaSame
import Derived.Test.YthpgkngkmmameaaArg
namespace Go.Proofs.Ythpgkngkmmameaa
open Go.RowKit
set_option linter.unusedVariables false

theorem sq_range {zs : List Int} (h : zs.all isSq = true) : ∀ x ∈ zs, 0 ≤ x ∧ x ≤ 2038 := by
  intro x hx
  have := List.all_eq_true.1 h x hx
  obtain ⟨a, b, _⟩ := isSq_nat this
  omega
theorem deck_range {zs : List Int} (h : deckB zs = true) : ∀ x ∈ zs, 0 ≤ x ∧ x ≤ 51 := by
  intro x hx
  have h2 : cardsB zs = true := by simp [deckB] at h; exact h.2
  have h3 : zs.all (fun x => inB x 0 51) = true := by simp only [cardsB, Bool.and_eq_true] at h2; exact h2.1
  exact inB_iff.1 (List.all_eq_true.1 h3 x hx)
theorem deck_length {zs : List Int} (h : deckB zs = true) : zs.length = 52 := by
  simp [deckB] at h; exact h.1
def maskOk (zs : List Int) (key : Int) : Bool := decide (zs.length ≤ 52) && zs.all isSq && inB key 1 1018
def maskV (zs : List Int) (key : Int) : List Int := if maskOk zs key = true then maskL zs key else []
def maskE (zs : List Int) (key : Int) : Int := if maskOk zs key = true then 0 else 2
def firstOk (key : Int) (ps : List Int) : Bool := inB key 1 1018 && deckB ps
def firstV (key : Int) (ps : List Int) : List Int := if firstOk key ps = true then firstL key ps else []
def firstE (key : Int) (ps : List Int) : Int := if firstOk key ps = true then 0 else 2
def secOk (zs : List Int) (key : Int) (ps : List Int) : Bool := decide (zs.length = 52) && zs.all isSq && inB key 1 1018 && deckB ps
def secV (zs : List Int) (key : Int) (ps : List Int) : List Int := if secOk zs key ps = true then orderL (maskL zs key) ps else []
def secE (zs : List Int) (key : Int) (ps : List Int) : Int := if secOk zs key ps = true then 0 else 2
def audOk (a : Int) (ps : List Int) (b : Int) (qs : List Int) : Bool := inB a 1 1018 && inB b 1 1018 && deckB ps && deckB qs
def audV (a : Int) (ps : List Int) (b : Int) (qs zs : List Int) : Bool := audOk a ps b qs && decide (zs = orderL (maskL (firstL a ps) b) qs)
def audE (a : Int) (ps : List Int) (b : Int) (qs : List Int) : Int := if audOk a ps b qs = true then 0 else 2
theorem mask_len (zs : List Int) (key : Int) : (maskL zs key).length = zs.length := by simp [maskL]
theorem first_len (key : Int) (ps : List Int) : (firstL key ps).length = ps.length := by simp [firstL]
theorem order_len (zs ps : List Int) : (orderL zs ps).length = ps.length := by simp [orderL]
theorem first_range (key : Int) (ps : List Int) : ∀ x ∈ firstL key ps, 0 ≤ x ∧ x ≤ 2038 := by
  intro x hx
  simp only [firstL, List.mem_map] at hx
  obtain ⟨c, _, rfl⟩ := hx
  exact pw_range _ _
def codesL : List Int := (List.range 52).map fun c : Nat => codeI (c : Int)
theorem first_order (key : Int) (ps : List Int) (h : ∀ x ∈ ps, 0 ≤ x ∧ x ≤ 51) : orderL (maskL codesL key) ps = firstL key ps := by
  unfold orderL firstL
  refine List.map_congr_left fun x hx => ?_
  obtain ⟨h0, h1⟩ := h x hx
  have : (maskL codesL key)[x.toNat]? = some (pw (codeI x) key) := by
    unfold maskL codesL
    rw [List.getElem?_map, List.getElem?_map, List.getElem?_range (by omega)]
    simp only [Option.map_some]
    rw [show ((x.toNat : Nat) : Int) = x from by omega]
  simp [List.getD, this]
theorem codesL_range : ∀ x ∈ codesL, 0 ≤ x ∧ x ≤ 2038 := by
  intro x hx
  simp only [codesL, List.mem_map, List.mem_range] at hx
  obtain ⟨c, hc, rfl⟩ := hx
  exact codeI_range _ (by omega) (by omega)
theorem codesL_len : codesL.length = 52 := by simp [codesL]

theorem spec_l32First_c (B : Option Addr) (m d : Nat) (ps : List Int) (key : Int) (w : World) (hm : ps.length = m) (hm' : m ≤ 1048576) (hp : RI w B ps) (hps : Hid (∀ x ∈ ps, 0 ≤ x ∧ x ≤ 51)) (hk0 : 0 ≤ key) (hk1 : key ≤ 4000000000) :
    Calls Try.prog 127 #[.int .i64 key, .slice B m d] w fun e w' => ∃ g c', e = .returned (.slice (some ⟨g, 0, none⟩) m c') ∧ OI w' w.heap.size w'.heap.size (some ⟨g, 0, none⟩) (firstL key ps) ∧ Below w.heap.size w w' := by
  go_enter Try.func127, Try.ntmps127
  go_wp2_with fail
  go_loopw [5, 6] (fun o i wr => ∃ k g c', o = .slice (some ⟨g, 0, none⟩) k c' ∧ i = .int .i64 (k : Nat) ∧ k ≤ 52 ∧ Row wr w.heap.size (some ⟨g, 0, none⟩) k c' ((List.range k).map fun c : Nat => codeI (c : Int)) ∧ Below w.heap.size w wr) (fun _ i _ => 52 - (intOf i).toNat)
  case atStart => exact ⟨0, _, _, rfl, rfl, Nat.zero_le _, by simpa using Row.empty w (Nat.le_refl _), (Below.refl _ _).alloc (Nat.le_refl _) _⟩
  case round =>
    obtain ⟨k, g, c', rfl, rfl, hk, ho, hbr⟩ := hrel
    have hsz := hbr.size
    by_cases hlt : k < 52
    · have HS : Hid ((List.range k).map (fun c : Nat => codeI (c : Int)) ++ [codeI (k : Int)] = (List.range (k + 1)).map fun c : Nat => codeI (c : Int)) := by
        rw [List.range_succ, List.map_append]; exact rfl
      go_wp2_with (first
        | (go_at_call 171; refine (spec_l32Code_c _ _ (by omega) (by omega)).mono ?_; rintro e w' ⟨rfl, rfl⟩)
        | (at_builtin; refine wpList_append1 rfl _ _ rfl w.heap.size (some ⟨g, 0, none⟩) k c' _ rfl (Row.alloc ho _) wr.heap.size 1 (codeI (k : Int)) rfl (by simp) (by omega) (by simp; omega) ?_; intro g2 c2 w2 hr2 hb2 hg2))
      rw [HS.out] at hr2
      go_roundw
      case rel => exact ⟨k + 1, g2, c2, rfl, by go_num, by omega, hr2, (hbr.alloc (by omega) _).trans hb2⟩
      case measure => simp [intOf]; omega
    · have hke : k = 52 := by omega
      subst hke
      have hcl : Row wr w.heap.size (some ⟨g, 0, none⟩) 52 c' codesL := ho
      go_wp2_with fail
      refine (spec_l32Mask_c _ 52 _ codesL key _ codesL_len (by omega) hcl.oi.ri codesL_range hk0 hk1).mono ?_
      rintro e w1 ⟨g1, c1, rfl, o1, b1⟩
      have s1 := b1.size
      go_wp2_with fail
      refine (spec_l32Order_c _ _ 52 _ m _ (maskL codesL key) ps _ (by rw [mask_len]; exact codesL_len) hm hm' o1.ri ((hp.below hbr).below b1) (fun x hx => ⟨(hps.out x hx).1, by have := (hps.out x hx).2; omega⟩)).mono ?_
      rintro e w2 ⟨g2, c2, rfl, o2, b2⟩
      go_wp2_with fail
      go_ret
      refine ⟨g2, c2, rfl, ?_, ?_⟩
      · rw [first_order key ps hps.out] at o2
        exact o2.widen (by omega) (Nat.le_refl _)
      · exact below_step (below_step hbr b1 (by omega)) b2 (by omega)
theorem impl_FirstPass_c (key : Int) (A : Option Addr) (n c : Nat) (ps : List Int) (w : World) (hn : ps.length = n) (hm : n ≤ 1048576) (hr : RI w A ps) :
    Calls Try.prog 71 #[.int .i64 key, .slice A n c] w (LR w (firstV key ps) (firstE key ps)) := by
  subst hn
  have hn : ps.length = ps.length := rfl
  cases hk : inB key 1 1018
  · have HV := Lib.hid (show firstV key ps = [] by simp [firstV, firstOk, hk])
    have HE := Lib.hid (show firstE key ps = 2 by simp [firstE, firstOk, hk])
    go_enter Try.func71, Try.ntmps71
    go_wp2_with (first | (go_at_call 122; refine (impl_isKey_c _ _).mono ?_; rintro e w' ⟨rfl, rfl⟩) | (go_at_call 123; refine (impl_isOrder_c _ _ _ ps _ rfl hm hr).mono ?_; rintro e w' ⟨rfl, hb0⟩))
    go_ret2
    rw [HV.out, HE.out]
    exact LR.mk rfl rfl (Nat.zero_le _) (OI.nil _ _ _ _) (Below.refl _ _)
  · cases ha : deckB ps
    · have HV := Lib.hid (show firstV key ps = [] by simp [firstV, firstOk, ha])
      have HE := Lib.hid (show firstE key ps = 2 by simp [firstE, firstOk, ha])
      go_enter Try.func71, Try.ntmps71
      go_wp2_with (first | (go_at_call 122; refine (impl_isKey_c _ _).mono ?_; rintro e w' ⟨rfl, rfl⟩) | (go_at_call 123; refine (impl_isOrder_c _ _ _ ps _ rfl hm hr).mono ?_; rintro e w' ⟨rfl, hb0⟩))
      go_ret2
      rw [HV.out, HE.out]
      exact LR.mk rfl rfl (Nat.zero_le _) (OI.nil _ _ _ _) (hb0)
    · have HV := Lib.hid (show firstV key ps = firstL key ps by simp [firstV, firstOk, ha, hk])
      have HE := Lib.hid (show firstE key ps = 0 by simp [firstE, firstOk, ha, hk])
      obtain ⟨k0, k1⟩ := inB_iff.1 hk
      have hz := Lib.hid (deck_range ha)
      go_enter Try.func71, Try.ntmps71
      go_wp2_with (first | (go_at_call 122; refine (impl_isKey_c _ _).mono ?_; rintro e w' ⟨rfl, rfl⟩) | (go_at_call 123; refine (impl_isOrder_c _ _ _ ps _ rfl hm hr).mono ?_; rintro e w' ⟨rfl, hb0⟩) | (go_at_call 124; refine (impl_firstPass_c _ _ _ ps _ _ rfl hm (hr.below hb0) hz (by omega) (by omega)).mono ?_; rintro e w1 ⟨g, rfl, hmo, hmb⟩))
      go_ret2
      rw [HV.out, HE.out]
      have s0 := hb0.size
      exact LR.mk rfl (first_len _ _) hm (hmo.widen s0 (Nat.le_refl _)) (below_step hb0 hmb s0)
theorem spec_FirstPass_c (key : Int) (A : Option Addr) (n c : Nat) (ps : List Int) (w : World) (hn : ps.length = n) (hm : n ≤ 1048576) (hr : RI w A ps) :
    Calls Try.prog 72 #[.int .i64 key, .slice A n c] w (LR w (firstV key ps) (firstE key ps)) := by
  subst hn
  have hn : ps.length = ps.length := rfl
  cases hk : inB key 1 1018
  · have HV := Lib.hid (show firstV key ps = [] by simp [firstV, firstOk, hk])
    have HE := Lib.hid (show firstE key ps = 2 by simp [firstE, firstOk, hk])
    go_enter Try.func72, Try.ntmps72
    go_wp2_with (first | (go_at_call 125; refine (spec_l32Key_c _ _).mono ?_; rintro e w' ⟨rfl, rfl⟩) | (go_at_call 126; refine (spec_IsDeck_c _ _ _ ps _ rfl hm hr).mono ?_; rintro e w' ⟨rfl, hb0⟩))
    go_ret2
    rw [HV.out, HE.out]
    exact LR.mk rfl rfl (Nat.zero_le _) (OI.nil _ _ _ _) (Below.refl _ _)
  · cases ha : deckB ps
    · have HV := Lib.hid (show firstV key ps = [] by simp [firstV, firstOk, ha])
      have HE := Lib.hid (show firstE key ps = 2 by simp [firstE, firstOk, ha])
      go_enter Try.func72, Try.ntmps72
      go_wp2_with (first | (go_at_call 125; refine (spec_l32Key_c _ _).mono ?_; rintro e w' ⟨rfl, rfl⟩) | (go_at_call 126; refine (spec_IsDeck_c _ _ _ ps _ rfl hm hr).mono ?_; rintro e w' ⟨rfl, hb0⟩))
      go_ret2
      rw [HV.out, HE.out]
      exact LR.mk rfl rfl (Nat.zero_le _) (OI.nil _ _ _ _) (hb0)
    · have HV := Lib.hid (show firstV key ps = firstL key ps by simp [firstV, firstOk, ha, hk])
      have HE := Lib.hid (show firstE key ps = 0 by simp [firstE, firstOk, ha, hk])
      obtain ⟨k0, k1⟩ := inB_iff.1 hk
      have hz := Lib.hid (deck_range ha)
      go_enter Try.func72, Try.ntmps72
      go_wp2_with (first | (go_at_call 125; refine (spec_l32Key_c _ _).mono ?_; rintro e w' ⟨rfl, rfl⟩) | (go_at_call 126; refine (spec_IsDeck_c _ _ _ ps _ rfl hm hr).mono ?_; rintro e w' ⟨rfl, hb0⟩) | (go_at_call 127; refine (spec_l32First_c _ _ _ ps _ _ rfl hm (hr.below hb0) hz (by omega) (by omega)).mono ?_; rintro e w1 ⟨g, c', rfl, hmo, hmb⟩))
      go_ret2
      rw [HV.out, HE.out]
      have s0 := hb0.size
      exact LR.mk rfl (first_len _ _) hm (hmo.widen s0 (Nat.le_refl _)) (below_step hb0 hmb s0)
theorem impl_SecondPass_c (A : Option Addr) (n c : Nat) (zs : List Int) (key : Int) (B : Option Addr) (m d : Nat) (ps : List Int) (w : World) (hn : zs.length = n) (hm : n ≤ 1048576) (hr : RI w A zs) (hp : ps.length = m) (hq : m ≤ 1048576) (hs : RI w B ps) :
    Calls Try.prog 74 #[.slice A n c, .int .i64 key, .slice B m d] w (LR w (secV zs key ps) (secE zs key ps)) := by
  have hp0 := Lib.hid hp
  clear hp
  have hp := hp0
  subst hn
  by_cases h52 : zs.length = 52
  · have hle : zs.length ≤ 52 := by omega
    have hi1 : ((zs.length : Int) == 52) = true := by simp [h52]
    have hi2 : ((zs.length : Int) != 52) = false := by simp [h52]
    have H52 := Lib.hid h52
    clear h52
    cases ha : zs.all isSq
    · have HV := Lib.hid (show secV zs key ps = [] by simp [secV, secOk, ha])
      have HE := Lib.hid (show secE zs key ps = 2 by simp [secE, secOk, ha])
      go_enter Try.func74, Try.ntmps74
      go_wp2_with (first | (go_at_call 130; refine (impl_areSquares_c _ _ _ zs _ rfl hm hr).mono ?_; rintro e w' ⟨rfl, rfl⟩) | (go_at_call 122; refine (impl_isKey_c _ _).mono ?_; rintro e w' ⟨rfl, rfl⟩) | (go_at_call 123; refine (impl_isOrder_c _ _ _ ps _ hp.out hq hs).mono ?_; rintro e w' ⟨rfl, hb0⟩))
      go_ret2
      rw [HV.out, HE.out]
      exact LR.mk rfl rfl (Nat.zero_le _) (OI.nil _ _ _ _) (Below.refl _ _)
    · cases hk : inB key 1 1018
      · have HV := Lib.hid (show secV zs key ps = [] by simp [secV, secOk, hk])
        have HE := Lib.hid (show secE zs key ps = 2 by simp [secE, secOk, hk])
        go_enter Try.func74, Try.ntmps74
        go_wp2_with (first | (go_at_call 130; refine (impl_areSquares_c _ _ _ zs _ rfl hm hr).mono ?_; rintro e w' ⟨rfl, rfl⟩) | (go_at_call 122; refine (impl_isKey_c _ _).mono ?_; rintro e w' ⟨rfl, rfl⟩) | (go_at_call 123; refine (impl_isOrder_c _ _ _ ps _ hp.out hq hs).mono ?_; rintro e w' ⟨rfl, hb0⟩))
        go_ret2
        rw [HV.out, HE.out]
        exact LR.mk rfl rfl (Nat.zero_le _) (OI.nil _ _ _ _) (Below.refl _ _)
      · cases hd : deckB ps
        · have HV := Lib.hid (show secV zs key ps = [] by simp [secV, secOk, hd])
          have HE := Lib.hid (show secE zs key ps = 2 by simp [secE, secOk, hd])
          go_enter Try.func74, Try.ntmps74
          go_wp2_with (first | (go_at_call 130; refine (impl_areSquares_c _ _ _ zs _ rfl hm hr).mono ?_; rintro e w' ⟨rfl, rfl⟩) | (go_at_call 122; refine (impl_isKey_c _ _).mono ?_; rintro e w' ⟨rfl, rfl⟩) | (go_at_call 123; refine (impl_isOrder_c _ _ _ ps _ hp.out hq hs).mono ?_; rintro e w' ⟨rfl, hb0⟩))
          go_ret2
          rw [HV.out, HE.out]
          exact LR.mk rfl rfl (Nat.zero_le _) (OI.nil _ _ _ _) (hb0)
        · have HV := Lib.hid (show secV zs key ps = orderL (maskL zs key) ps by simp [secV, secOk, ha, hk, H52.out, hd])
          have HE := Lib.hid (show secE zs key ps = 0 by simp [secE, secOk, ha, hk, H52.out, hd])
          obtain ⟨k0, k1⟩ := inB_iff.1 hk
          have hz := Lib.hid (sq_range ha)
          have hpz : Hid (∀ x ∈ ps, 0 ≤ x ∧ x < (zs.length : Int)) := fun x hx => by have := deck_range hd x hx; have := H52.out; omega
          go_enter Try.func74, Try.ntmps74
          go_wp2_with (first | (go_at_call 130; refine (impl_areSquares_c _ _ _ zs _ rfl hm hr).mono ?_; rintro e w' ⟨rfl, rfl⟩) | (go_at_call 122; refine (impl_isKey_c _ _).mono ?_; rintro e w' ⟨rfl, rfl⟩) | (go_at_call 123; refine (impl_isOrder_c _ _ _ ps _ hp.out hq hs).mono ?_; rintro e w' ⟨rfl, hb0⟩) | (go_at_call 131; refine (impl_secondPass_c _ _ _ _ _ _ zs ps _ _ rfl hp.out hm hq (hr.below hb0) (hs.below hb0) hpz hz (by omega) (by omega)).mono ?_; rintro e w1 ⟨g, rfl, hmo, hmb⟩))
          go_ret2
          rw [HV.out, HE.out]
          have hp := hp0.out
          have s0 := hb0.size
          exact LR.mk rfl (by rw [order_len, hp]) hq (hmo.widen s0 (Nat.le_refl _)) (below_step hb0 hmb s0)
  · have hi1 : ((zs.length : Int) == 52) = false := by simp; omega
    have hi2 : ((zs.length : Int) != 52) = true := by simp; omega
    cases ha : zs.all isSq
    all_goals
      by_cases hle : zs.length ≤ 52
      all_goals
        have HV := Lib.hid (show secV zs key ps = [] by simp [secV, secOk, h52])
        have HE := Lib.hid (show secE zs key ps = 2 by simp [secE, secOk, h52])
        go_enter Try.func74, Try.ntmps74
        go_wp2_with (first | (go_at_call 130; refine (impl_areSquares_c _ _ _ zs _ rfl hm hr).mono ?_; rintro e w' ⟨rfl, rfl⟩) | (go_at_call 122; refine (impl_isKey_c _ _).mono ?_; rintro e w' ⟨rfl, rfl⟩) | (go_at_call 123; refine (impl_isOrder_c _ _ _ ps _ hp.out hq hs).mono ?_; rintro e w' ⟨rfl, hb0⟩))
        go_ret2
        rw [HV.out, HE.out]
        exact LR.mk rfl rfl (Nat.zero_le _) (OI.nil _ _ _ _) (Below.refl _ _)
theorem spec_SecondPass_c (A : Option Addr) (n c : Nat) (zs : List Int) (key : Int) (B : Option Addr) (m d : Nat) (ps : List Int) (w : World) (hn : zs.length = n) (hm : n ≤ 1048576) (hr : RI w A zs) (hp : ps.length = m) (hq : m ≤ 1048576) (hs : RI w B ps) :
    Calls Try.prog 75 #[.slice A n c, .int .i64 key, .slice B m d] w (LR w (secV zs key ps) (secE zs key ps)) := by
  have hp0 := Lib.hid hp
  clear hp
  have hp := hp0
  subst hn
  by_cases h52 : zs.length = 52
  · have hle : zs.length ≤ 52 := by omega
    have hi1 : ((zs.length : Int) == 52) = true := by simp [h52]
    have hi2 : ((zs.length : Int) != 52) = false := by simp [h52]
    have H52 := Lib.hid h52
    clear h52
    cases ha : zs.all isSq
    · have HV := Lib.hid (show secV zs key ps = [] by simp [secV, secOk, ha])
      have HE := Lib.hid (show secE zs key ps = 2 by simp [secE, secOk, ha])
      go_enter Try.func75, Try.ntmps75
      go_wp2_with (first | (go_at_call 132; refine (spec_l32Squares_c _ _ _ zs _ rfl hm hr).mono ?_; rintro e w' ⟨rfl, rfl⟩) | (go_at_call 125; refine (spec_l32Key_c _ _).mono ?_; rintro e w' ⟨rfl, rfl⟩) | (go_at_call 126; refine (spec_IsDeck_c _ _ _ ps _ hp.out hq hs).mono ?_; rintro e w' ⟨rfl, hb0⟩))
      go_ret2
      rw [HV.out, HE.out]
      exact LR.mk rfl rfl (Nat.zero_le _) (OI.nil _ _ _ _) (Below.refl _ _)
    · cases hk : inB key 1 1018
      · have HV := Lib.hid (show secV zs key ps = [] by simp [secV, secOk, hk])
        have HE := Lib.hid (show secE zs key ps = 2 by simp [secE, secOk, hk])
        go_enter Try.func75, Try.ntmps75
        go_wp2_with (first | (go_at_call 132; refine (spec_l32Squares_c _ _ _ zs _ rfl hm hr).mono ?_; rintro e w' ⟨rfl, rfl⟩) | (go_at_call 125; refine (spec_l32Key_c _ _).mono ?_; rintro e w' ⟨rfl, rfl⟩) | (go_at_call 126; refine (spec_IsDeck_c _ _ _ ps _ hp.out hq hs).mono ?_; rintro e w' ⟨rfl, hb0⟩))
        go_ret2
        rw [HV.out, HE.out]
        exact LR.mk rfl rfl (Nat.zero_le _) (OI.nil _ _ _ _) (Below.refl _ _)
      · cases hd : deckB ps
        · have HV := Lib.hid (show secV zs key ps = [] by simp [secV, secOk, hd])
          have HE := Lib.hid (show secE zs key ps = 2 by simp [secE, secOk, hd])
          go_enter Try.func75, Try.ntmps75
          go_wp2_with (first | (go_at_call 132; refine (spec_l32Squares_c _ _ _ zs _ rfl hm hr).mono ?_; rintro e w' ⟨rfl, rfl⟩) | (go_at_call 125; refine (spec_l32Key_c _ _).mono ?_; rintro e w' ⟨rfl, rfl⟩) | (go_at_call 126; refine (spec_IsDeck_c _ _ _ ps _ hp.out hq hs).mono ?_; rintro e w' ⟨rfl, hb0⟩))
          go_ret2
          rw [HV.out, HE.out]
          exact LR.mk rfl rfl (Nat.zero_le _) (OI.nil _ _ _ _) (hb0)
        · have HV := Lib.hid (show secV zs key ps = orderL (maskL zs key) ps by simp [secV, secOk, ha, hk, H52.out, hd])
          have HE := Lib.hid (show secE zs key ps = 0 by simp [secE, secOk, ha, hk, H52.out, hd])
          obtain ⟨k0, k1⟩ := inB_iff.1 hk
          have hz := Lib.hid (sq_range ha)
          have hpz : Hid (∀ x ∈ ps, 0 ≤ x ∧ x < (zs.length : Int)) := fun x hx => by have := deck_range hd x hx; have := H52.out; omega
          go_enter Try.func75, Try.ntmps75
          go_wp2_with (first | (go_at_call 132; refine (spec_l32Squares_c _ _ _ zs _ rfl hm hr).mono ?_; rintro e w' ⟨rfl, rfl⟩) | (go_at_call 125; refine (spec_l32Key_c _ _).mono ?_; rintro e w' ⟨rfl, rfl⟩) | (go_at_call 126; refine (spec_IsDeck_c _ _ _ ps _ hp.out hq hs).mono ?_; rintro e w' ⟨rfl, hb0⟩) | (go_at_call 134; refine (spec_l32Mask_c _ _ _ zs _ _ rfl hm (hr.below hb0) hz (by omega) (by omega)).mono ?_; rintro e w1 ⟨g, c1, rfl, o1, b1⟩) | (go_at_call 133; refine (spec_l32Order_c _ _ zs.length _ _ _ (maskL zs key) ps _ (mask_len _ _) hp.out hq o1.ri ((hs.below hb0).below b1) hpz).mono ?_; rintro e w2 ⟨g2, c2, rfl, hmo, b2⟩))
          go_ret2
          rw [HV.out, HE.out]
          have hp := hp0.out
          have s0 := hb0.size
          have s1 := b1.size
          exact LR.mk rfl (by rw [order_len, hp]) hq (hmo.widen (by omega) (Nat.le_refl _)) (below_step (below_step hb0 b1 s0) b2 (by omega))
  · have hi1 : ((zs.length : Int) == 52) = false := by simp; omega
    have hi2 : ((zs.length : Int) != 52) = true := by simp; omega
    cases ha : zs.all isSq
    all_goals
      by_cases hle : zs.length ≤ 52
      all_goals
        have HV := Lib.hid (show secV zs key ps = [] by simp [secV, secOk, h52])
        have HE := Lib.hid (show secE zs key ps = 2 by simp [secE, secOk, h52])
        go_enter Try.func75, Try.ntmps75
        go_wp2_with (first | (go_at_call 132; refine (spec_l32Squares_c _ _ _ zs _ rfl hm hr).mono ?_; rintro e w' ⟨rfl, rfl⟩) | (go_at_call 125; refine (spec_l32Key_c _ _).mono ?_; rintro e w' ⟨rfl, rfl⟩) | (go_at_call 126; refine (spec_IsDeck_c _ _ _ ps _ hp.out hq hs).mono ?_; rintro e w' ⟨rfl, hb0⟩))
        go_ret2
        rw [HV.out, HE.out]
        exact LR.mk rfl rfl (Nat.zero_le _) (OI.nil _ _ _ _) (Below.refl _ _)
end Go.Proofs.Ythpgkngkmmameaa
