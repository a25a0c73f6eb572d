/-
  Plain facts on lists of cards and on bits. No program stands here.
-/
import Derived.Test.YthpgkngkmmameaaBase
namespace Go.Proofs.Ythpgkngkmmameaa
/-- All are cards, and none occurs twice. -/
def cardsB (zs : List Int) : Bool := zs.all (fun x => inB x 0 51) && decide zs.Nodup
/-- What has been met so far is good. -/
def goodL (L : List Int) : Prop := L.all (fun x => inB x 0 51) = true ∧ L.Nodup
theorem goodL_nil : goodL [] := ⟨rfl, List.nodup_nil⟩
theorem goodL_step {zs : List Int} {k : Nat} {x : Int} (hx : zs[k]? = some x) (h : goodL (zs.take k)) (h1 : inB x 0 51 = true) (h2 : x ∉ zs.take k) : goodL (zs.take (k + 1)) := by
  have e : zs.take (k + 1) = zs.take k ++ [x] := by rw [List.take_add_one, hx]; rfl
  rw [e]
  refine ⟨by rw [List.all_append, h.1]; simp [h1], ?_⟩
  rw [List.nodup_append]
  refine ⟨h.2, by simp, fun a ha b hb => ?_⟩
  simp at hb
  subst hb
  exact fun e => h2 (e ▸ ha)
theorem cardsB_out {zs : List Int} {k : Nat} {x : Int} (hx : zs[k]? = some x) (h1 : inB x 0 51 = false) : cardsB zs = false := by
  unfold cardsB
  have : zs.all (fun x => inB x 0 51) = false := by
    rw [List.all_eq_false]
    exact ⟨x, List.mem_of_getElem? hx, by simp [h1]⟩
  rw [this]
  rfl
theorem cardsB_twice {zs : List Int} {k : Nat} {x : Int} (hx : zs[k]? = some x) (h1 : x ∈ zs.take k) : cardsB zs = false := by
  unfold cardsB
  have : ¬ zs.Nodup := by
    intro h
    have hlt := (List.getElem?_eq_some_iff.1 hx).1
    have he : zs = zs.take k ++ zs.drop k := (List.take_append_drop k zs).symm
    rw [he, List.nodup_append] at h
    refine h.2.2 x h1 x ?_ rfl
    rw [List.drop_eq_getElem_cons hlt]
    have := (List.getElem?_eq_some_iff.1 hx).2
    rw [this]
    simp
  simp [this]
theorem cardsB_done {zs : List Int} {k : Nat} (hk : ¬ k < zs.length) (h : goodL (zs.take k)) : cardsB zs = true := by
  rw [List.take_of_length_le (by omega)] at h
  unfold cardsB
  rw [h.1]
  simp [h.2]
theorem mem_step {zs : List Int} {k : Nat} {x : Int} (hx : zs[k]? = some x) (c : Int) : c ∈ zs.take (k + 1) ↔ c ∈ zs.take k ∨ c = x := by
  rw [List.take_add_one, hx]; simp
/-- The bits of what has been met. -/
def bitsOf (S : Nat) (L : List Int) : Prop := S < 2 ^ 52 ∧ ∀ c : Nat, c < 52 → S.testBit c = decide ((c : Int) ∈ L)
theorem bits_step {S : Nat} {zs : List Int} {k : Nat} {x : Int} (hx : zs[k]? = some x) (h : bitsOf S (zs.take k)) (h0 : 0 ≤ x) (h1 : x ≤ 51) : bitsOf (S ||| 2 ^ x.toNat) (zs.take (k + 1)) := by
  refine ⟨Nat.or_lt_two_pow h.1 (Nat.pow_lt_pow_right (by decide) (by omega)), fun c hc => ?_⟩
  rw [Nat.testBit_or, h.2 c hc, Nat.testBit_two_pow]
  have hm := mem_step hx (c : Int)
  by_cases hcx : (c : Int) = x
  · have : x.toNat = c := by omega
    have hin : (c : Int) ∈ zs.take (k + 1) := hm.2 (.inr hcx)
    simp [hin, this]
  · have : ¬ x.toNat = c := by omega
    simp [hm, hcx, this]
theorem bits_zero : bitsOf 0 [] := ⟨by decide, fun c _ => by simp⟩
theorem bit_shift (S n : Nat) : S / 2 ^ n % 2 = if S.testBit n then 1 else 0 := by
  rw [Nat.testBit_eq_decide_div_mod_eq]
  have := Nat.mod_two_eq_zero_or_one (S / 2 ^ n)
  rcases this with h | h <;> simp [h]
theorem take_eq_step {xs ys : List Int} {k : Nat} {x : Int} (hx : xs[k]? = some x) (hy : ys[k]? = some x) (h : xs.take k = ys.take k) : xs.take (k + 1) = ys.take (k + 1) := by
  rw [List.take_add_one, List.take_add_one, hx, hy, h]
theorem take_eq_done {xs ys : List Int} {k : Nat} (h1 : ¬ k < xs.length) (h2 : xs.length = ys.length) (h : xs.take k = ys.take k) : xs = ys := by
  rwa [List.take_of_length_le (by omega), List.take_of_length_le (by omega)] at h
theorem ne_of_get {xs ys : List Int} {k : Nat} {x y : Int} (hx : xs[k]? = some x) (hy : ys[k]? = some y) (h : x ≠ y) : xs ≠ ys := by
  rintro rfl
  rw [hx] at hy
  injection hy with hy
  exact h hy
end Go.Proofs.Ythpgkngkmmameaa
