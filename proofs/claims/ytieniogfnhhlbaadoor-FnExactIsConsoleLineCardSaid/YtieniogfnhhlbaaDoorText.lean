/-
  Plain facts on texts as lists of bytes, no program in sight: splitting at a byte, numerals and what they spell. Conditions: none.
-/
import Derived.Lib.AtoiAllCases
import Derived.Lib.SplitLaws
import Derived.Lib.ItoaMem
import Derived.Lib.ParseIntB
namespace Go.Proofs.YtieniogfnhhlbaaDoor

/-- The pieces between the bytes c. -/
def spl (c : UInt8) : List UInt8 → List (List UInt8)
  | [] => [[]]
  | x :: r => if x = c then [] :: spl c r else ((x :: (spl c r).head?.getD []) :: (spl c r).tail)
/-- 'cur' set before the first piece. -/
def glue (cur : List UInt8) (l : List (List UInt8)) : List (List UInt8) := (cur ++ l.head?.getD []) :: l.tail
theorem spl_ne (c : UInt8) (l : List UInt8) : spl c l ≠ [] := by
  cases l with
  | nil => simp [spl]
  | cons x r => unfold spl; split <;> simp
theorem glue_nil (c : UInt8) (l : List UInt8) : glue [] (spl c l) = spl c l := by
  unfold glue
  cases h : spl c l with
  | nil => exact absurd h (spl_ne c l)
  | cons a b => simp
theorem glue_hit (c : UInt8) (cur r : List UInt8) : glue cur (spl c (c :: r)) = cur :: glue [] (spl c r) := by
  rw [glue_nil]; simp [spl, glue]
theorem glue_miss (c x : UInt8) (cur r : List UInt8) (h : x ≠ c) : glue cur (spl c (x :: r)) = glue (cur ++ [x]) (spl c r) := by
  simp [spl, glue, h]
theorem glue_end (c : UInt8) (cur : List UInt8) : glue cur (spl c []) = [cur] := by simp [spl, glue]
theorem index_one_hit (c : UInt8) (r : List UInt8) : Lib.index (c :: r) [c] = 0 := by rw [Lib.index]; simp [List.isPrefixOf]
theorem splitK_one (c : UInt8) : ∀ l : List UInt8, Lib.splitK [c] 0 (Lib.count l [c]) l = spl c l
  | [] => by simp [Lib.count_one, Lib.splitK, spl]
  | x :: r => by
    have ih := splitK_one c r
    by_cases h : x = c
    · subst h
      rw [Lib.count_cons_eq, Nat.add_comm, Lib.splitK, index_one_hit]
      simp [ih, spl]
    · rw [Lib.count_cons_ne x c r h]
      have hp : ([c] : List UInt8).isPrefixOf (x :: r) = false := by simp [List.isPrefixOf, Ne.symm h]
      have hix : Lib.index (x :: r) [c] = if Lib.index r [c] == -1 then -1 else Lib.index r [c] + 1 := by rw [Lib.index, hp]; simp
      simp only [spl, if_neg h]
      rw [← ih]
      by_cases hm : Lib.index r [c] = -1
      · rw [Lib.count_miss hm]
        simp [Lib.splitK]
      · have hge := Lib.index_ge r [c]
        obtain ⟨j, hj⟩ : ∃ j : Nat, Lib.index r [c] = j := ⟨(Lib.index r [c]).toNat, by omega⟩
        rw [Lib.count_hit (by simp) hj]
        have hn : ¬ ((j : Int) == -1) = true := fun e => by have := beq_iff_eq.1 e; omega
        have hn2 : ¬ ((j : Int) + 1 == -1) = true := fun e => by have := beq_iff_eq.1 e; omega
        rw [hj, if_neg hn] at hix
        generalize hk : Lib.count (r.drop (j + [c].length)) [c] = k
        rw [Nat.add_comm 1 k]
        simp only [Lib.splitK, hix, hj, if_neg hn, if_neg hn2]
        rw [show ((j : Int) + 1).toNat = j + 1 from by omega]
        simp
theorem splitB_one (c : UInt8) (s : ByteArray) : (Lib.splitB ⟨#[c]⟩ 0 (Lib.countB s ⟨#[c]⟩) s).map (·.data.toList) = spl c s.data.toList := by
  rw [Lib.splitB_data]; exact splitK_one c s.data.toList
/-- A text as a value. -/
def txt (l : List UInt8) : Value := .string ⟨l.toArray⟩
theorem txt_of (s : ByteArray) : Value.string s = txt s.data.toList := rfl
theorem map_txt (l : List ByteArray) : l.map Value.string = (l.map (·.data.toList)).map txt := by
  rw [List.map_map]; rfl
theorem countB_one (c : UInt8) (s : ByteArray) : Lib.countB s ⟨#[c]⟩ + 1 = (spl c s.data.toList).length := by
  rw [← splitB_one, List.length_map, Lib.splitB_all ⟨#[c]⟩ (Nat.le_refl 1) 0 _ s rfl]

/-- One digit more. -/
def stp (acc : Nat) (c : UInt8) : Nat := 10 * acc + (c.toNat - 48)
/-- What digits spell, 'acc' before them. -/
def valTo : List UInt8 → Nat → Nat
  | [], acc => acc
  | c :: r, acc => valTo r (stp acc c)
def valFrom (acc : Nat) (l : List UInt8) : Nat := valTo l acc
def isDig (l : List UInt8) : Bool := l.all fun c => 48 ≤ c.toNat && c.toNat ≤ 57
theorem isDig_cons {c : UInt8} {r : List UInt8} (h : isDig (c :: r) = true) : 48 ≤ c.toNat ∧ c.toNat ≤ 57 ∧ isDig r = true := by simpa [isDig, and_assoc] using h
theorem valFrom_nil (acc : Nat) : valFrom acc [] = acc := by unfold valFrom; rw [valTo]
theorem valFrom_cons (acc : Nat) (c : UInt8) (r : List UInt8) : valFrom acc (c :: r) = valFrom (stp acc c) r := by unfold valFrom; rw [valTo]
theorem valFrom_one (acc : Nat) (c : UInt8) : valFrom acc [c] = stp acc c := by rw [valFrom_cons, valFrom_nil]
theorem stp_eq (acc : Nat) (c : UInt8) : stp acc c = 10 * acc + (c.toNat - 48) := by unfold stp; exact Eq.refl _
theorem valFrom_ge : ∀ (l : List UInt8) (acc : Nat), acc ≤ valFrom acc l
  | [], _ => Nat.le_refl _
  | c :: r, acc => by rw [valFrom_cons]; have := valFrom_ge r (stp acc c); rw [stp_eq] at this ⊢; omega
theorem valFrom_snoc : ∀ (l : List UInt8) (acc : Nat) (c : UInt8), valFrom acc (l ++ [c]) = stp (valFrom acc l) c
  | [], acc, c => by rw [List.nil_append, valFrom_one, valFrom_nil]
  | x :: r, acc, c => by rw [List.cons_append, valFrom_cons, valFrom_cons, valFrom_snoc r (stp acc x) c]
theorem isDig_append (a b : List UInt8) : isDig (a ++ b) = (isDig a && isDig b) := by simp [isDig]
theorem digit_val {d : Nat} (h : d < 10) : (UInt8.ofNat (48 + d)).toNat = 48 + d := by
  rw [UInt8.toNat_ofNat']; exact Nat.mod_eq_of_lt (by omega)
theorem decDigits_dig (u : Nat) : isDig (Lib.decDigits u) = true ∧ valFrom 0 (Lib.decDigits u) = u ∧ Lib.decDigits u ≠ [] := by
  induction u using Nat.strongRecOn with
  | _ u ih =>
    by_cases h : u < 10
    · rw [Lib.decDigits, dif_pos h]
      have := digit_val h
      refine ⟨?_, ?_, by simp⟩
      · simp only [isDig, List.all_cons, List.all_nil, this, Bool.and_true, Bool.and_eq_true, decide_eq_true_eq]; omega
      · rw [valFrom_one, stp_eq, this]; omega
    · rw [Lib.decDigits, dif_neg h]
      obtain ⟨h1, h2, h3⟩ := ih (u / 10) (by omega)
      have := digit_val (d := u % 10) (by omega)
      refine ⟨?_, ?_, by simp⟩
      · rw [isDig_append, h1]
        simp only [isDig, List.all_cons, List.all_nil, this, Bool.and_true, Bool.true_and, Bool.and_eq_true, decide_eq_true_eq]; omega
      · rw [valFrom_snoc, h2, stp_eq, this]; omega
theorem parseUintM_ok (M : Nat) (hM : M ≤ 18446744073709551615) : ∀ (l : List UInt8) (acc : Nat), isDig l = true → valFrom acc l ≤ M → Lib.parseUintM M acc l = .ok (valFrom acc l)
  | [], _, _, _ => rfl
  | c :: r, acc, hd, hv => by
    obtain ⟨h1, h2, h3⟩ := isDig_cons hd
    rw [valFrom_cons] at hv ⊢
    have hge := valFrom_ge r (stp acc c)
    have hs := stp_eq acc c
    have e : acc * 10 + (c.toNat - 48) = stp acc c := by rw [hs]; omega
    unfold Lib.parseUintM
    rw [if_pos ⟨h1, h2⟩, if_neg (by omega), e, if_neg (by omega)]
    exact parseUintM_ok M hM r _ h3 hv
theorem parseInt_dec (u : Nat) (hu : u < 9223372036854775808) : Lib.parseIntB 64 (Lib.decDigits u) = .ok (u : Int) := by
  obtain ⟨h1, h2, h3⟩ := decDigits_dig u
  cases hl : Lib.decDigits u with
  | nil => exact absurd hl h3
  | cons c r =>
    rw [hl] at h1 h2
    have hd' := isDig_cons h1
    have n1 : ¬ c.toNat = 45 := by omega
    have n2 : ¬ (c.toNat = 43 ∨ c.toNat = 45) := by omega
    have hp : Lib.parseUintB 64 (c :: r) = .ok u := by
      unfold Lib.parseUintB
      rw [if_neg (by simp), parseUintM_ok _ (by decide) _ _ h1 (by rw [h2]; have : (2 : Nat) ^ 64 = 18446744073709551616 := by decide
                                                                   omega), h2]
    unfold Lib.parseIntB
    simp only [if_neg n2, hp]
    rw [if_neg (by have : (2 : Nat) ^ (64 - 1) = 9223372036854775808 := by decide
                   omega), if_neg (by simp [n1])]
    simp [n1]
/-- A numeral that Go itself would print, as the number that it spells. -/
def numOf (l : List UInt8) : Option Int :=
  match Lib.parseIntB 64 l with
  | .ok v => if Lib.itoa v = l then some v else none
  | _ => none
/-- A numeral of at least 0 and at most ten digits. -/
def plainOf (l : List UInt8) : Option Int :=
  match numOf l with
  | some v => if 0 ≤ v ∧ l.length ≤ 10 then some v else none
  | none => none
theorem numOf_itoa {l : List UInt8} {v : Int} (h : numOf l = some v) : Lib.itoa v = l := by
  unfold numOf at h
  split at h
  · split at h
    · injection h with h; subst h; assumption
    · cases h
  · cases h
theorem plainOf_dec {l : List UInt8} {v : Int} (h : plainOf l = some v) : 0 ≤ v ∧ l.length ≤ 10 ∧ Lib.decDigits v.toNat = l := by
  unfold plainOf at h
  split at h
  · rename_i x hx
    split at h
    · rename_i hc
      injection h with h
      subst h
      refine ⟨hc.1, hc.2, ?_⟩
      have := numOf_itoa hx
      rw [← this, Lib.itoa, if_neg (by omega)]
    · cases h
  · cases h
theorem val_lt (l : List UInt8) (hd : isDig l = true) : ∀ acc : Nat, valFrom acc l < (acc + 1) * 10 ^ l.length := by
  induction l with
  | nil => intro acc; rw [valFrom_nil, List.length_nil, Nat.pow_zero]; omega
  | cons c r ih =>
    intro acc
    have hd' := isDig_cons hd
    have := ih hd'.2.2 (stp acc c)
    have hs := stp_eq acc c
    rw [valFrom_cons]
    refine Nat.lt_of_lt_of_le this ?_
    rw [List.length_cons, Nat.pow_succ, Nat.mul_comm (10 ^ r.length) 10, ← Nat.mul_assoc]
    exact Nat.mul_le_mul_right _ (by omega)
theorem val_ten (l : List UInt8) (hd : isDig l = true) (hl : l.length ≤ 10) : valFrom 0 l < 10000000000 := by
  have := val_lt l hd 0
  have h2 : 10 ^ l.length ≤ 10 ^ 10 := Nat.pow_le_pow_right (by decide) hl
  have h3 : (10 : Nat) ^ 10 = 10000000000 := by decide
  omega
/-- The reference's way of reading a numeral. -/
theorem plainOf_yes {l : List UInt8} (hl : l.length ≤ 10) (h : Lib.decDigits (valFrom 0 l) = l) : plainOf l = some (valFrom 0 l : Int) := by
  have hd : isDig l = true := by have := (decDigits_dig (valFrom 0 l)).1; rwa [h] at this
  have hlt := val_ten l hd hl
  have hp := parseInt_dec (valFrom 0 l) (by omega)
  rw [h] at hp
  have hn : numOf l = some (valFrom 0 l : Int) := by
    unfold numOf
    rw [hp]
    simp only
    rw [if_pos (by rw [Lib.itoa_nonneg, h])]
  unfold plainOf
  rw [hn]
  simp only
  rw [if_pos ⟨by omega, hl⟩]
theorem plainOf_no {l : List UInt8} (h : ¬ (l.length ≤ 10 ∧ Lib.decDigits (valFrom 0 l) = l)) : plainOf l = none := by
  cases hp : plainOf l with
  | none => rfl
  | some v =>
    obtain ⟨h0, h1, h2⟩ := plainOf_dec hp
    have h3 := (decDigits_dig v.toNat).2.1
    rw [h2] at h3
    exact absurd ⟨h1, by rw [h3]; exact h2⟩ h
theorem plainOf_bad {l : List UInt8} (h : isDig l = false) : plainOf l = none := by
  apply plainOf_no
  rintro ⟨_, h2⟩
  have := (decDigits_dig (valFrom 0 l)).1
  rw [h2, h] at this
  cases this
theorem plainOf_empty : plainOf [] = none := by decide
end Go.Proofs.YtieniogfnhhlbaaDoor
