/-
  What FnPasses asks: the second pass on the first pass opens to the cards in the order of both orders. No program stands here but value functions.
-/
import Derived.Test.YthpgkngkmmameaaMaskFacts
import Derived.Test.YthpgkngkmmameaaCodes
import Derived.Test.YthpgkngkmmameaaDeck
import Derived.Test.YthpgkngkmmameaaCryptAudit
namespace Go.Proofs.Ythpgkngkmmameaa
open Go.RowKit
set_option linter.unusedVariables false
theorem open_back {c k o : Int} (hc : inB c 0 51 = true) (k0 : 1 ≤ k) (k1 : k ≤ 1018) (o0 : 1 ≤ o) (o1 : o ≤ 1018) : openE (pw (pw (codeI c) k) o) k o = 0 ∧ openV (pw (pw (codeI c) k) o) k o = c := by
  obtain ⟨-, -, e1, e2, hsq⟩ := code_back hc
  have hs1 : isSq (pw (pw (codeI c) k) o) = true := isSq_pw o (isSq_pw k hsq)
  have hk : inB k 1 1018 = true := inB_iff.2 ⟨k0, k1⟩
  have ho : inB o 1 1018 = true := inB_iff.2 ⟨o0, o1⟩
  have hx : openX (pw (pw (codeI c) k) o) k o = codeI c := by
    unfold openX
    rw [pw_comm (codeI c) k o, pw_inv (isSq_pw o hsq) k0 k1, pw_inv hsq o0 o1]
  unfold openE openV
  rw [if_pos ⟨hs1, hk, ho⟩, if_pos ⟨hs1, hk, ho⟩, hx]
  exact ⟨e2, e1⟩
theorem pass_facts {k o : Int} {ps dk : List Int} (h : firstE k ps = 0) (o0 : 1 ≤ o) (o1 : o ≤ 1018) (hd : deckB dk = true) :
    secE (firstV k ps) o dk = 0 ∧ audE k ps o dk = 0 ∧ audV k ps o dk (secV (firstV k ps) o dk) = true ∧ (secV (firstV k ps) o dk).length = 52 ∧ ps.length = 52 ∧
    Hid (∀ (i : Nat) (x q : Int), (secV (firstV k ps) o dk)[i]? = some x → dk[i]? = some q → 0 ≤ q ∧ q < 52 ∧ ∃ c, ps[q.toNat]? = some c ∧ openE x k o = 0 ∧ openV x k o = c) := by
  have hok : firstOk k ps = true := by
    by_cases hh : firstOk k ps = true
    · exact hh
    · unfold firstE at h; rw [if_neg hh] at h; exact absurd h (by decide)
  have hV : firstV k ps = firstL k ps := by unfold firstV; rw [if_pos hok]
  unfold firstOk at hok
  rw [Bool.and_eq_true] at hok
  obtain ⟨hk, hp⟩ := hok
  obtain ⟨k0, k1⟩ := inB_iff.1 hk
  have ho : inB o 1 1018 = true := inB_iff.2 ⟨o0, o1⟩
  have lp := (deck_iff.1 hp).1
  have ld := (deck_iff.1 hd).1
  have rp := deck_in hp
  have rd := deck_in hd
  have lf : (firstL k ps).length = 52 := by unfold firstL; rw [List.length_map]; exact lp
  have sq : (firstL k ps).all isSq = true := by
    rw [List.all_eq_true]
    intro x hx
    unfold firstL at hx
    rw [List.mem_map] at hx
    obtain ⟨c, hc, rfl⟩ := hx
    exact isSq_pw k (code_back (inB_iff.2 (rp c hc))).2.2.2.2
  have hsec : secOk (firstL k ps) o dk = true := by unfold secOk; simp [lf, sq, ho, hd]
  have haud : audOk k ps o dk = true := by unfold audOk; simp [hk, ho, hp, hd]
  have hS : secV (firstV k ps) o dk = orderL (maskL (firstL k ps) o) dk := by unfold secV; rw [hV, if_pos hsec]
  refine ⟨by unfold secE; rw [hV, if_pos hsec], by unfold audE; rw [if_pos haud], ?_, ?_, lp, ?_⟩
  · unfold audV; rw [haud, hS]; simp
  · rw [hS]; unfold orderL; rw [List.length_map]; exact ld
  · refine Lib.hid fun i x q hx hq => ?_
    obtain ⟨q0, q1⟩ := rd q (List.mem_of_getElem? hq)
    rw [hS] at hx
    have hc : ps[q.toNat]? = some (ps.getD q.toNat 0) := get_getD (by omega)
    have hx2 : x = pw (pw (codeI (ps.getD q.toNat 0)) k) o := by
      have e : (orderL (maskL (firstL k ps) o) dk)[i]? = some ((maskL (firstL k ps) o).getD q.toNat 0) := by
        unfold orderL; rw [List.getElem?_map, hq]; rfl
      rw [e] at hx
      injection hx with hx
      rw [← hx]
      unfold maskL firstL
      rw [List.map_map]
      rw [List.getD_eq_getElem?_getD, List.getElem?_map, hc, Option.map_some, Option.getD_some, Function.comp_apply]
    refine ⟨q0, by omega, _, hc, ?_⟩
    rw [hx2]
    exact open_back (inB_iff.2 (rp _ (List.mem_of_getElem? hc))) k0 k1 o0 o1
end Go.Proofs.Ythpgkngkmmameaa
