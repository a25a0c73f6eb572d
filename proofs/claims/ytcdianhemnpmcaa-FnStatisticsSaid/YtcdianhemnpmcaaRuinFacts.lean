/-
  Plain facts of chances: a reduced number of itself is one; chances of neighbouring banks multiply; a growing share needs an advantage. Conditions: none.
-/
import Derived.Test.YtcdianhemnpmcaaTarget
namespace Go.Proofs.Ytcdianhemnpmcaa
open Go.RowKit
set_option linter.unusedVariables false
theorem red_of {n d : Int} (hn0 : 0 ≤ n) (hn1 : n ≤ 1000000000) (hd0 : 1 ≤ d) (hd1 : d ≤ 1000000000) (hg : gcdI n d = 1) : redN n d = n ∧ redD n d = d ∧ redE n d = 0 := by
  have ha : absI n = n := by unfold absI; omega
  have hp : redP n d = n := by unfold redP; rw [ha, hg]; simp
  have hq : redQ n d = d := by unfold redQ; rw [ha, hg]; simp
  have hr : isR (redP n d) (redQ n d) = true := by rw [hp, hq]; exact isR_iff.2 ⟨by omega, hn1, hd0, hd1, by rw [ha]; exact hg⟩
  unfold redN redD redE
  rw [if_pos hr, if_pos hr, if_pos hr, hp, hq]
  exact ⟨rfl, rfl, rfl⟩
theorem red_self {n : Int} (h : 1 ≤ n) : redN n n = 1 ∧ redD n n = 1 ∧ redE n n = 0 := by
  have ha : absI n = n := by unfold absI; omega
  have hg : gcdI n n = n := by unfold gcdI; rw [Nat.gcd_self]; omega
  have hp : redP n n = 1 := by unfold redP; rw [ha, hg]; exact Int.tdiv_self (by omega)
  have hq : redQ n n = 1 := by unfold redQ; rw [ha, hg]; exact Int.ediv_self (by omega)
  have hr : isR 1 1 = true := by decide
  unfold redN redD redE
  rw [hp, hq, if_pos hr, if_pos hr]
  exact ⟨rfl, rfl, rfl⟩
theorem gro_fact {a l : Int} (h : groE a l = 0) : decide (0 < groN a l) = decide (l < a) := by
  cases hb : betB a l
  · simp [groE, hb] at h
  · obtain ⟨a0, a1, l0, l1⟩ := bet_iff hb
    simp only [groE, groN, hb, if_true] at h ⊢
    by_cases hlt : l < a
    · rw [if_pos hlt] at h ⊢
      have hx : 0 < a - l := by omega
      have ha : absI (a - l) = a - l := by unfold absI; omega
      have hg0 := gcd_pos (a := a - l) (b := a + l) (by omega)
      have hd : gcdI (a - l) (a + l) ∣ a - l := by
        unfold gcdI
        have := Nat.gcd_dvd_left (a - l).toNat (a + l).toNat
        obtain ⟨k, hk⟩ := this
        refine ⟨(k : Int), ?_⟩
        have h2 : ((a - l).toNat : Int) = a - l := by omega
        rw [← h2]
        exact_mod_cast hk
      have hp : 0 < redP (a - l) (a + l) := by
        unfold redP
        rw [ha]
        obtain ⟨k, hk⟩ := hd
        generalize gcdI (a - l) (a + l) = g at *
        rw [hk, Int.mul_tdiv_cancel_left _ (by omega)]
        rcases Int.lt_or_le 0 k with h3 | h3
        · exact h3
        · exfalso
          have := Int.mul_nonpos_of_nonneg_of_nonpos (show 0 ≤ g by omega) h3
          omega
      by_cases hr : isR (redP (a - l) (a + l)) (redQ (a - l) (a + l)) = true
      · unfold redN; rw [if_pos hr]; simp [hp, hlt]
      · unfold redE at h; rw [if_neg hr] at h; simp at h
    · rw [if_neg hlt]
      have hp : redP 0 (a + l) = 0 := by unfold redP; simp
      have : redN 0 (a + l) = 0 := by unfold redN; rw [hp]; split <;> rfl
      rw [this]
      simp [hlt]
theorem tc_fact {a l b : Int} (h : tcE a l b b = 0) : tcN a l b b = 1 ∧ tcD a l b b = 1 := by
  cases hb : tcB a l b b
  · simp [tcE, hb] at h
  · have hb2 := hb
    simp only [tcB, Bool.and_eq_true] at hb2
    obtain ⟨⟨h1, h2⟩, h3⟩ := hb2
    obtain ⟨a0, a1, l0, l1⟩ := bet_iff h1
    obtain ⟨b0, b1⟩ := inB_iff.1 h2
    simp only [tcN, tcD, tcE, hb, if_true] at h ⊢
    by_cases he : a = l
    · rw [if_pos he, if_pos he]
      obtain ⟨p, q, _⟩ := red_self b0
      exact ⟨p, q⟩
    · rw [if_neg he] at h ⊢
      rw [if_neg he]
      cases ho : tcOk a l b
      · simp [ho] at h
      · have hw := tc_ne a0 l0 b0 he
        have hu : tcU a l b b = tcW a l b := by unfold tcU tcW; rw [Int.sub_self, pI_zero, Int.one_mul]
        have hpq : tcP a l b b = tcQ a l b b := by unfold tcP tcQ sgP sgQ; rw [hu]
        have hpos : 1 ≤ tcQ a l b b := by unfold tcQ sgQ; split <;> omega
        rw [hpq, if_pos rfl, if_pos rfl]
        obtain ⟨p, q, _⟩ := red_self hpos
        exact ⟨p, q⟩
theorem rui_form {a l b : Int} (hb : ruiB a l b = true) (hla : l < a) (ho : okP (a / gcdI a l) b = true) :
    ruiN a l b = ruiP a l b ∧ ruiD a l b = ruiQ a l b ∧ ruiE a l b = 0 ∧ 1 ≤ ruiP a l b ∧ ruiP a l b ≤ 1000000000 ∧ 1 ≤ ruiQ a l b ∧ ruiQ a l b ≤ 1000000000 ∧ gcdI (ruiP a l b) (ruiQ a l b) = 1 := by
  have hb2 := hb
  simp only [ruiB, Bool.and_eq_true] at hb2
  obtain ⟨a0, a1, l0, l1⟩ := bet_iff hb2.1
  obtain ⟨b0, b1⟩ := inB_iff.1 hb2.2
  obtain ⟨u0, u1⟩ := gcd_dvd_l (a := a) (l := l) a0 l0
  obtain ⟨v0, v1⟩ := gcd_dvd_a (a := a) (l := l) a0 l0
  have hg0 := gcd_pos (a := a) (b := l) (by omega)
  have huv := div_le_div (a := a) (l := l) (gcdI a l) hg0 (by omega)
  have hP : 1 ≤ ruiP a l b := pI_pos b u0
  have hQ : 1 ≤ ruiQ a l b := pI_pos b v0
  have hPQ : ruiP a l b ≤ ruiQ a l b := pI_base b (by omega) huv
  have hQm : ruiQ a l b ≤ 1000000000 := ok_le ho
  have hco : gcdI (ruiP a l b) (ruiQ a l b) = 1 := by
    unfold ruiP ruiQ pI gcdI
    simp only [Int.toNat_natCast]
    have hx : (l / ((Nat.gcd a.toNat l.toNat : Nat) : Int)).toNat = l.toNat / Nat.gcd a.toNat l.toNat := by
      obtain ⟨m, rfl⟩ : ∃ m : Nat, l = m := ⟨l.toNat, by omega⟩
      rw [Int.toNat_natCast, ← Int.natCast_ediv, Int.toNat_natCast]
    have hy : (a / ((Nat.gcd a.toNat l.toNat : Nat) : Int)).toNat = a.toNat / Nat.gcd a.toNat l.toNat := by
      obtain ⟨m, rfl⟩ : ∃ m : Nat, a = m := ⟨a.toNat, by omega⟩
      rw [Int.toNat_natCast, ← Int.natCast_ediv, Int.toNat_natCast]
    rw [hx, hy]
    have hc : Nat.Coprime (a.toNat / Nat.gcd a.toNat l.toNat) (l.toNat / Nat.gcd a.toNat l.toNat) := Nat.coprime_div_gcd_div_gcd (Nat.gcd_pos_of_pos_left _ (by omega))
    have := (hc.symm.pow b.toNat b.toNat)
    rw [Nat.Coprime] at this
    rw [this]
    rfl
  obtain ⟨r1, r2, r3⟩ := red_of (n := ruiP a l b) (d := ruiQ a l b) (by omega) (by omega) hQ hQm hco
  have hle : ¬ a ≤ l := by omega
  refine ⟨?_, ?_, ?_, hP, by omega, hQ, hQm, hco⟩
  · simp [ruiN, hb, hle, ho, r1]
  · simp [ruiD, hb, hle, ho, r2]
  · simp [ruiE, hb, hle, ho, r3]
theorem pI_split {x b : Int} (hx : 0 ≤ x) (hb : 2 ≤ b) : pI x (b - 1) * pI x 1 = pI x b := by
  have h1 := pI_succ (x := x) (k := (b - 1).toNat) hx
  rw [show (((b - 1).toNat + 1 : Nat) : Int) = b from by omega, show (((b - 1).toNat : Nat) : Int) = b - 1 from by omega] at h1
  rw [h1]
  simp [pI, show ((x.toNat : Nat) : Int) = x from by omega]
def mulP (a l b : Int) : Int := ruiN a l (b - 1) * ruiN a l 1
def mulQ (a l b : Int) : Int := ruiD a l (b - 1) * ruiD a l 1
/-- The product of the chances of a bank less by one and of a bank of one. -/
theorem rui_fact {a l b : Int} (h : ruiE a l b = 0) (hb2 : 2 ≤ b) :
    ruiE a l (b - 1) = 0 ∧ ruiE a l 1 = 0 ∧ isR (ruiN a l (b - 1)) (ruiD a l (b - 1)) = true ∧ isR (ruiN a l 1) (ruiD a l 1) = true ∧
    0 ≤ mulP a l b ∧ mulP a l b ≤ 1000000000 ∧ 1 ≤ mulQ a l b ∧ mulQ a l b ≤ 1000000000 ∧ redN (mulP a l b) (mulQ a l b) = ruiN a l b ∧ redD (mulP a l b) (mulQ a l b) = ruiD a l b ∧ redE (mulP a l b) (mulQ a l b) = 0 ∧
    -1000000000 ≤ ruiN a l (b - 1) ∧ ruiN a l (b - 1) ≤ 1000000000 ∧ -1000000000 ≤ ruiN a l 1 ∧ ruiN a l 1 ≤ 1000000000 ∧ 0 ≤ ruiD a l (b - 1) ∧ ruiD a l (b - 1) ≤ 1000000000 ∧ 0 ≤ ruiD a l 1 ∧ ruiD a l 1 ≤ 1000000000 := by
  cases hb : ruiB a l b
  · simp [ruiE, hb] at h
  · have hx := hb
    simp only [ruiB, Bool.and_eq_true] at hx
    obtain ⟨a0, a1, l0, l1⟩ := bet_iff hx.1
    obtain ⟨b0, b1⟩ := inB_iff.1 hx.2
    have hb' : ruiB a l (b - 1) = true := by simp only [ruiB, Bool.and_eq_true]; exact ⟨hx.1, inB_iff.2 ⟨by omega, by omega⟩⟩
    have hb1 : ruiB a l 1 = true := by simp only [ruiB, Bool.and_eq_true]; exact ⟨hx.1, by decide⟩
    by_cases hle : a ≤ l
    · have n0 : ∀ c, ruiB a l c = true → ruiN a l c = 1 ∧ ruiD a l c = 1 ∧ ruiE a l c = 0 := fun c hc => ⟨by simp [ruiN, hc, hle], by simp [ruiD, hc, hle], by simp [ruiE, hc, hle]⟩
      obtain ⟨p1, p2, p3⟩ := n0 _ hb'
      obtain ⟨q1, q2, q3⟩ := n0 _ hb1
      obtain ⟨r1, r2, r3⟩ := n0 _ hb
      have hm : mulP a l b = 1 := by unfold mulP; rw [p1, q1]; rfl
      have hn : mulQ a l b = 1 := by unfold mulQ; rw [p2, q2]; rfl
      obtain ⟨s1, s2, s3⟩ := red_self (n := 1) (by omega)
      rw [hm, hn, p1, p2, q1, q2, r1, r2, s1, s2, s3]
      exact ⟨p3, q3, by decide, by decide, by decide, by decide, by decide, by decide, rfl, rfl, rfl, by decide, by decide, by decide, by decide, by decide, by decide, by decide, by decide⟩
    · have hla : l < a := by omega
      cases ho : okP (a / gcdI a l) b
      · simp [ruiE, hb, hle, ho] at h
      · obtain ⟨v0, v1⟩ := gcd_dvd_a (a := a) (l := l) a0 l0
        obtain ⟨u0, u1⟩ := gcd_dvd_l (a := a) (l := l) a0 l0
        have mono : ∀ c : Int, 1 ≤ c → c ≤ b → okP (a / gcdI a l) c = true := fun c hc hcb => by
          have := pI_mono (x := a / gcdI a l) (j := c.toNat) (k := b.toNat) v0 (by omega)
          rw [show ((c.toNat : Nat) : Int) = c from by omega, show ((b.toNat : Nat) : Int) = b from by omega] at this
          exact ok_of (Int.le_trans this (ok_le ho))
        obtain ⟨p1, p2, p3, p4, p5, p6, p7, p8⟩ := rui_form hb' hla (mono _ (by omega) (by omega))
        obtain ⟨q1, q2, q3, q4, q5, q6, q7, q8⟩ := rui_form hb1 hla (mono _ (by omega) (by omega))
        obtain ⟨r1, r2, r3, r4, r5, r6, r7, r8⟩ := rui_form hb hla ho
        have hm : mulP a l b = ruiP a l b := by unfold mulP; rw [p1, q1]; unfold ruiP; exact pI_split (by omega) hb2
        have hn : mulQ a l b = ruiQ a l b := by unfold mulQ; rw [p2, q2]; unfold ruiQ; exact pI_split (by omega) hb2
        obtain ⟨s1, s2, s3⟩ := red_of (n := ruiP a l b) (d := ruiQ a l b) (by omega) r5 r6 r7 r8
        have e1 : absI (ruiP a l (b - 1)) = ruiP a l (b - 1) := by unfold absI; omega
        have e2 : absI (ruiP a l 1) = ruiP a l 1 := by unfold absI; omega
        rw [hm, hn, p1, p2, q1, q2, r1, r2, s1, s2, s3]
        exact ⟨p3, q3, isR_iff.2 ⟨by omega, by omega, by omega, by omega, by rw [e1]; exact p8⟩, isR_iff.2 ⟨by omega, by omega, by omega, by omega, by rw [e2]; exact q8⟩, by omega, by omega, by omega, by omega, rfl, rfl, rfl, by omega, by omega, by omega, by omega, by omega, by omega, by omega, by omega⟩
end Go.Proofs.Ytcdianhemnpmcaa
