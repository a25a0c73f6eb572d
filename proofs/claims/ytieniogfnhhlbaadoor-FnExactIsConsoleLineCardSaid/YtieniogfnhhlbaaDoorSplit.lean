/-
  The reference's splitting of a text at a byte: spec.l01Split. Conditions: a text of at most 1048576 bytes.
-/
import Derived.Test.YtieniogfnhhlbaaDoorDec
import Derived.LoopTactic
namespace Go.Proofs.YtieniogfnhhlbaaDoor
open Go.RowKit
set_option linter.unusedVariables false
theorem cur_data (s : ByteArray) (f k : Nat) : (s.extract f k).data.toList = (s.data.toList.drop f).take (k - f) := by
  rw [Lib.extract_data]
theorem txt_extract (s : ByteArray) (f k : Nat) : Value.string (s.extract f k) = txt ((s.data.toList.drop f).take (k - f)) := by
  rw [txt_of, cur_data]
theorem cur_next (l : List UInt8) (f k : Nat) (hf : f ≤ k) (hk : k < l.length) : (l.drop f).take (k + 1 - f) = (l.drop f).take (k - f) ++ [l[k]] := by
  have e : k + 1 - f = (k - f) + 1 := by omega
  have hk' : k - f < (l.drop f).length := by rw [List.length_drop]; omega
  rw [e, List.take_succ_eq_append_getElem hk', List.getElem_drop]
  simp only [show f + (k - f) = k from by omega]
/-- Where the reference's loop stands: 'done' are the pieces behind it. -/
def SplAt (c : UInt8) (l : List UInt8) (f k : Nat) (done : List (List UInt8)) : Prop :=
  done.length ≤ k ∧ ((k ≤ l.length ∧ f ≤ k ∧ done ++ glue ((l.drop f).take (k - f)) (spl c (l.drop k)) = spl c l) ∨ (k = l.length + 1 ∧ done = spl c l))
theorem SplAt.start (c : UInt8) (l : List UInt8) : SplAt c l 0 0 [] := ⟨Nat.le_refl _, .inl ⟨Nat.zero_le _, Nat.le_refl _, by simp [glue_nil]⟩⟩
theorem SplAt.hit {c : UInt8} {l : List UInt8} {f k : Nat} {done : List (List UInt8)} (h : SplAt c l f k done) (hk : k < l.length) (he : l[k] = c) : SplAt c l (k + 1) (k + 1) (done ++ [(l.drop f).take (k - f)]) := by
  obtain ⟨h0, h | ⟨h1, _⟩⟩ := h
  · obtain ⟨h1, h2, h3⟩ := h
    refine ⟨by simp; omega, .inl ⟨by omega, Nat.le_refl _, ?_⟩⟩
    rw [List.drop_eq_getElem_cons hk, he, glue_hit] at h3
    rw [← h3, Nat.sub_self, List.take_zero]
    simp
  · omega
theorem SplAt.miss {c : UInt8} {l : List UInt8} {f k : Nat} {done : List (List UInt8)} (h : SplAt c l f k done) (hk : k < l.length) (he : l[k] ≠ c) : SplAt c l f (k + 1) done := by
  obtain ⟨h0, h | ⟨h1, _⟩⟩ := h
  · obtain ⟨h1, h2, h3⟩ := h
    refine ⟨by omega, .inl ⟨by omega, by omega, ?_⟩⟩
    rw [List.drop_eq_getElem_cons hk, glue_miss _ _ _ _ he, ← cur_next l f k h2 hk] at h3
    exact h3
  · omega
theorem SplAt.last {c : UInt8} {l : List UInt8} {f k : Nat} {done : List (List UInt8)} (h : SplAt c l f k done) (hk : k = l.length) : SplAt c l (k + 1) (k + 1) (done ++ [(l.drop f).take (k - f)]) := by
  obtain ⟨h0, h | ⟨h1, _⟩⟩ := h
  · obtain ⟨h1, h2, h3⟩ := h
    refine ⟨by simp; omega, .inr ⟨by omega, ?_⟩⟩
    rw [show l.drop k = [] from List.drop_of_length_le (by omega), glue_end] at h3
    exact h3
  · omega
theorem SplAt.end_ {c : UInt8} {l : List UInt8} {f k : Nat} {done : List (List UInt8)} (h : SplAt c l f k done) (hk : l.length < k) : done = spl c l := by
  obtain ⟨h0, h | ⟨h1, h2⟩⟩ := h
  · omega
  · exact h2
set_option maxHeartbeats 4000000 in
theorem spec_l01Split_c (s : ByteArray) (c : UInt8) (b : Int) (w : World) (hb : b = (c.toNat : Int)) (hs : s.size ≤ 1048576) :
    Calls Tryd.prog 10 #[.string s, .int .u8 b] w fun e w' => ∃ A cap, e = .returned (.slice A (spl c s.data.toList).length cap) ∧ RowV 9 w' w.heap.size A (spl c s.data.toList).length cap ((spl c s.data.toList).map txt) ∧ Below w.heap.size w w' := by
  subst hb
  have hlen : s.data.toList.length = s.size := Array.length_toList
  have HLEN := Lib.hid hlen
  clear hlen
  have h0 := RowV.empty 9 w (Nat.le_refl w.heap.size)
  have hb0 : Below w.heap.size w (w.alloc (.cells #[] 9)) := (Below.refl _ _).alloc (Nat.le_refl _) _
  go_enter Tryd.func10, Tryd.ntmps10
  go_wp2_with fail
  go_loopw [5, 6, 7] (fun out fr i wr => ∃ (k f : Nat) (done : List (List UInt8)) (A : Option Addr) (cap : Nat), i = .int .i64 k ∧ fr = .int .i64 f ∧ k ≤ s.size + 1 ∧ f ≤ k ∧ SplAt c s.data.toList f k done ∧ out = .slice A done.length cap ∧ RowV 9 wr w.heap.size A done.length cap (done.map txt) ∧ Below w.heap.size w wr) (fun _ _ i _ => s.size + 1 - (intOf i).toNat)
  case atStart => exact ⟨0, 0, [], _, 0, rfl, rfl, Nat.zero_le _, Nat.le_refl _, SplAt.start _ _, rfl, h0, hb0⟩
  case round =>
    obtain ⟨k, f, done, A, cap, rfl, rfl, hk, hf, hat, rfl, hrow, hbr⟩ := hrel
    have HAT := Lib.hid hat
    have hdl : done.length ≤ k := hat.1
    have HROW := Lib.hid hrow
    have hsz : w.heap.size ≤ wr.heap.size := hbr.size
    have HB := Lib.hid hbr
    have HT := Lib.hid (txt_extract s f k)
    clear hat hrow hbr
    by_cases hle : k ≤ s.size
    · by_cases hlt : k < s.size
      · have hne : ((k : Int) == (s.size : Int)) = false := by simp; omega
        by_cases hc : s[k] = c
        · have hce : ((s[k].toNat : Int) == (c.toNat : Int)) = true := by rw [hc]; simp
          have HH := Lib.hid (HAT.out.hit (by rw [HLEN.out]; exact hlt) hc)
          clear hc
          go_wp2_with (at_builtin; refine wpList_appendS rfl _ _ rfl w.heap.size A done.length cap _ rfl (RowV.alloc HROW.out _) wr.heap.size 1 (s.extract f k) rfl (by simp) (by omega) (by simp; omega) ?_; intro g2 c2 w2 hr2 hb2 hg2; have HB2 := Lib.hid ((HB.out.alloc hsz _).trans hb2); rw [HT.out] at hr2; have HR2 := Lib.hid hr2; clear hr2 hb2 hg2)
          go_roundw
          case rel => exact ⟨k + 1, k + 1, _, some ⟨g2, 0, none⟩, c2, by go_num, by go_num, by omega, Nat.le_refl _, HH.out, by simp, by simpa using HR2.out, HB2.out⟩
          case measure => simp [intOf]; omega
        · have hce : ((s[k].toNat : Int) == (c.toNat : Int)) = false := by
            cases h : ((s[k].toNat : Int) == (c.toNat : Int)) with
            | false => rfl
            | true => exact absurd (UInt8.toNat_inj.1 (Int.ofNat_inj.1 (by simpa using h))) hc
          have HH := Lib.hid (HAT.out.miss (by rw [HLEN.out]; exact hlt) hc)
          clear hc
          go_wp2_with fail
          go_roundw
          case rel => exact ⟨k + 1, f, done, A, cap, by go_num, rfl, by omega, by omega, HH.out, rfl, HROW.out, HB.out⟩
          case measure => simp [intOf]; omega
      · have hne : ((k : Int) == (s.size : Int)) = true := by simp; omega
        have HH := Lib.hid (HAT.out.last (by rw [HLEN.out]; omega))
        go_wp2_with (at_builtin; refine wpList_appendS rfl _ _ rfl w.heap.size A done.length cap _ rfl (RowV.alloc HROW.out _) wr.heap.size 1 (s.extract f k) rfl (by simp) (by omega) (by simp; omega) ?_; intro g2 c2 w2 hr2 hb2 hg2; have HB2 := Lib.hid ((HB.out.alloc hsz _).trans hb2); rw [HT.out] at hr2; have HR2 := Lib.hid hr2; clear hr2 hb2 hg2)
        go_roundw
        case rel => exact ⟨k + 1, k + 1, _, some ⟨g2, 0, none⟩, c2, by go_num, by go_num, by omega, Nat.le_refl _, HH.out, by simp, by simpa using HR2.out, HB2.out⟩
        case measure => simp [intOf]; omega
    · have HE := Lib.hid (HAT.out.end_ (by rw [HLEN.out]; omega))
      go_wp2_with fail
      go_ret
      exact ⟨A, cap, by rw [← HE.out]; rfl, by rw [← HE.out]; exact HROW.out, HB.out⟩
end Go.Proofs.YtieniogfnhhlbaaDoor
