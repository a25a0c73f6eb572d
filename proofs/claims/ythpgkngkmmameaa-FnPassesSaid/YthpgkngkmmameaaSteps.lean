/-
  The spec's steps with a kept code (l29Ratio, l19Times, l19Add, l19Whole, l19Result). Conditions: ratios where the code is 0; the code is 0 or 3.
-/
import Derived.Test.YthpgkngkmmameaaRatOps
import Derived.Test.YthpgkngkmmameaaRicmD
import Derived.Outline
namespace Go.Proofs.Ythpgkngkmmameaa
open Go.RowKit
set_option linter.unusedVariables false
set_option linter.unusedSimpArgs false
/-- Block s holds the code c. -/
def St (w : World) (s : Nat) (c : Int) : Prop := w.heap[s]? = some (.cells #[.int .i64 c] 132 (0, 0))
theorem St.lt {w : World} {s : Nat} {c : Int} (h : St w s c) : s < w.heap.size := (Array.getElem?_eq_some_iff.1 h).1
theorem St.below {w w' : World} {s : Nat} {c : Int} (h : St w s c) (hb : Below w.heap.size w w') : St w' s c := (hb.block s h.lt).trans h
theorem St.cell {w : World} {s : Nat} {c : Int} (h : St w s c) : w.cell? ⟨s, 0, none⟩ = some (.int .i64 c) ∧ w.frozen? ⟨s, 0, none⟩ = false := by
  unfold St at h
  exact ⟨by simp [World.cell?, h], by simp [World.frozen?, h]⟩
theorem St.new (w : World) (c : Int) : St (w.alloc (.cells #[.int .i64 c] 132 (0, 0))) w.heap.size c := heap_alloc_new w _
theorem St.alloc {w : World} {s : Nat} {c : Int} (h : St w s c) (o : Obj) : St (w.alloc o) s c := h.below ((Below.refl _ _).alloc (Nat.le_refl _) o)
theorem St.set {w : World} {s : Nat} {c c' : Int} (h : St w s c) : St (w.setCell ⟨s, 0, none⟩ (.int .i64 c')) s c' := by
  unfold St at h ⊢
  simp [World.setCell, Array.getElem?_modify, h]
theorem St.far {w : World} {s : Nat} {c : Int} (h : St w s c) {p : Addr} (hp : p.block ≠ s) (u : Value) : St (w.setCell p u) s c := (Below.heap_setCell w p u s (fun e => hp e.symm)).trans h
theorem St.kept {w w' : World} {s lo hi : Nat} {c : Int} (h : St w s c) (hk : Kept lo hi w w') (hd : ¬ (lo ≤ s ∧ s < hi)) : St w' s c := (hk.block s h.lt hd).trans h
/-- The code that goes with a ratio or none. -/
def cdQ (q : Option (Int × Int)) : Int := match q with | some _ => 0 | none => 3
theorem cdQ_none : cdQ none = 3 := rfl
theorem cdQ_some (x : Int × Int) : cdQ (some x) = 0 := rfl
/-- The state after a step, and the step's ratio. -/
structure SQ (w : World) (s : Nat) (q : Option (Int × Int)) (n d : Int) : Prop where
  st : St w s (cdQ q)
  v : ∀ x, q = some x → x = (n, d) ∧ isR n d = true
/-- What a step hands back. -/
def SR (s : Nat) (q : Option (Int × Int)) (w : World) (e : Ending) (w' : World) : Prop := ∃ n d : Int, e = .returned (.agg #[.int .i64 n, .int .i64 d]) ∧ SQ w' s q n d ∧ Kept s (s + 1) w w'
theorem red_q (n d : Int) (hd : 0 < d) (w : World) (s : Nat) (h : St w s (redE n d)) : SQ w s (ratQ n d) (redN n d) (redD n d) := by
  unfold ratQ
  by_cases he : redE n d = 0
  · rw [if_pos he]
    refine ⟨by rw [he] at h; exact h, fun x hx => ?_⟩
    injection hx with hx
    exact ⟨hx.symm, (ratQ_val (q := (redN n d, redD n d)) hd (by unfold ratQ; rw [if_pos he])).1⟩
  · rw [if_neg he]
    have h3 : redE n d = 3 := by
      unfold redE at he ⊢
      split
      · rename_i h0; rw [if_pos h0] at he; exact absurd rfl he
      · rfl
    exact ⟨by rw [h3] at h; exact h, fun x hx => by simp at hx⟩
def qN (q : Option (Int × Int)) : Int := match q with | some x => x.1 | none => 0
def qD (q : Option (Int × Int)) : Int := match q with | some x => x.2 | none => 0
theorem St.al {w : World} {s : Nat} {c : Int} (h : St w s c) {o : Obj} : St (w.alloc o) s c := h.alloc o
theorem bel_k0 (w : World) (o : Obj) : Below w.heap.size w (w.alloc o) := (Below.refl _ _).alloc (Nat.le_refl _) o
theorem bel_k1 (w : World) (o p : Obj) : Below w.heap.size w ((w.alloc o).alloc p) := (bel_k0 w o).alloc (by simp) p
theorem bel_k2 (w : World) (o p q : Obj) : Below w.heap.size w (((w.alloc o).alloc p).alloc q) := (bel_k1 w o p).alloc (by simp; omega) q
theorem below_nw (w : World) (o : Obj) : Below w.heap.size w (w.alloc o) := (Below.refl _ _).alloc (Nat.le_refl _) o
set_option maxHeartbeats 2000000 in
theorem spec_l29Ratio_c (s : Nat) (q : Option (Int × Int)) (n d : Int) (w : World) (h : St w s (cdQ q)) (h0 : -4000000000000000000 ≤ n) (h1 : n ≤ 4000000000000000000) (d0 : 1 ≤ d) (d1 : d ≤ 4000000000000000000) :
    Calls Try.prog 188 #[.pointer (some ⟨s, 0, none⟩), .int .i64 n, .int .i64 d] w (SR s (q.bind fun x => ratQ n d) w) := by
  obtain ⟨c0, f0⟩ := h.cell
  have hs := h.lt
  have hs' : s < w.heap.size + 1 := by omega
  have hs'' : s < w.heap.size + 1 + 1 := by omega
  cases q with
  | none =>
    rw [cdQ_none] at c0
    have H := Lib.hid h
    clear h
    go_enter Try.func188, Try.ntmps188
    go_wp2_with fail
    refine bodyPost_ret (v := .agg #[.int .i64 0, .int .i64 1]) (by simp [results, Try.results188, go_sem]) rfl ?_
    refine ⟨0, 1, rfl, ⟨?_, fun x hx => by simp at hx⟩, ?_⟩
    · repeat (first | exact H.out | refine St.far ?_ (by simp; omega) _ | refine St.alloc ?_ _)
    · repeat (first | exact Kept.refl _ _ _ | refine Kept.setCell ?_ (.inr (by simp <;> omega)) _ | refine Kept.alloc ?_ _)
  | some x =>
    rw [cdQ_some] at c0
    have H := Lib.hid h
    clear h
    go_enter Try.func188, Try.ntmps188
    go_wp2_with fail
    refine (spec_l01Ratio_c _ _ _ (by omega) (by omega) (by omega) (by omega)).mono ?_
    rintro e w1 ⟨rfl, b1⟩
    have hr1 : Hid (R2 w1 w.heap.size 0 0) := Lib.hid (by simpa using (R2.new w 0 0).below b1)
    have ht1 := Lib.hid ((H.out.al).below b1)
    have hb1 : Hid (Below w.heap.size w w1) := Lib.hid (Below.trans (b := w.alloc (.cells #[.int .i64 0, .int .i64 0] 48 (0, 0))) (bel_k0 w _) (b1.mono (by first | (simp; done) | (simp; omega))))
    have hsz0 := hr1.out.lt
    have hsz : w.heap.size < w1.heap.size := by omega
    have hs1 : s < w1.heap.size := by omega
    have hne : ¬ s = w.heap.size := by omega
    have hne' : ¬ w.heap.size = s := by omega
    obtain ⟨r0, r1, g0, g1⟩ := hr1.out.cells
    obtain ⟨c1, f1⟩ := ht1.out.cell
    clear b1
    go_wp2_with fail
    refine bodyPost_ret (v := .agg #[.int .i64 (redN n d), .int .i64 (redD n d)]) (by simp [results, Try.results188, go_sem, r0, r1, hne, hne', hsz, hsz0]) rfl ?_
    refine ⟨_, _, rfl, ?_, ?_⟩
    · refine red_q _ _ (by omega) _ _ ?_
      repeat (first | exact ht1.out | refine St.far ?_ (by simp; omega) _ | refine St.set (c := 0) ?_ | refine St.alloc ?_ _)
    · repeat (first | exact Kept.of_below hb1.out _ _ | refine Kept.setCell ?_ (by first | exact .inl ⟨Nat.le_refl _, by simp⟩ | exact .inr (by simp <;> omega)) _ | refine Kept.alloc ?_ _)
set_option maxHeartbeats 2000000 in
theorem spec_l19Times_c (s : Nat) (q : Option (Int × Int)) (n d m c : Int) (w : World) (h : St w s (cdQ q)) (hab : ∀ x, q = some x → isR n d = true ∧ isR m c = true) :
    Calls Try.prog 187 #[.pointer (some ⟨s, 0, none⟩), .agg #[.int .i64 n, .int .i64 d], .agg #[.int .i64 m, .int .i64 c]] w (SR s (q.bind fun x => ratQ (n * m) (d * c)) w) := by
  obtain ⟨c0, f0⟩ := h.cell
  have hs := h.lt
  have hs' : s < w.heap.size + 1 := by omega
  have hs'' : s < w.heap.size + 1 + 1 := by omega
  cases q with
  | none =>
    rw [cdQ_none] at c0
    have H := Lib.hid h
    clear h
    go_enter Try.func187, Try.ntmps187
    go_wp2_with fail
    refine bodyPost_ret (v := .agg #[.int .i64 0, .int .i64 1]) (by simp [results, Try.results187, go_sem]) rfl ?_
    refine ⟨0, 1, rfl, ⟨?_, fun x hx => by simp at hx⟩, ?_⟩
    · repeat (first | exact H.out | refine St.far ?_ (by simp; omega) _ | refine St.alloc ?_ _)
    · repeat (first | exact Kept.refl _ _ _ | refine Kept.setCell ?_ (.inr (by simp <;> omega)) _ | refine Kept.alloc ?_ _)
  | some x =>
    rw [cdQ_some] at c0
    obtain ⟨K1, K2⟩ := hab _ rfl
    have hdd : 0 < d * c := by
      have := (isR_iff.1 K1).2.2.1
      have := (isR_iff.1 K2).2.2.1
      exact Int.mul_pos (by omega) (by omega)
    have HDD := Lib.hid hdd
    clear hdd
    have H := Lib.hid h
    clear h
    go_enter Try.func187, Try.ntmps187
    go_wp2_with fail
    refine (spec_MultiplyRatios_c _ _ _ _ _ K1 K2).mono ?_
    rintro e w1 ⟨rfl, b1⟩
    have hr1 : Hid (R2 w1 (w.heap.size + 1 + 1) 0 0) := Lib.hid (by simpa using (R2.new ((w.alloc (.cells #[.int .i64 n, .int .i64 d] 48 (0, 0))).alloc (.cells #[.int .i64 m, .int .i64 c] 48 (0, 0))) 0 0).below b1)
    have ht1 := Lib.hid ((H.out.al.al.al).below b1)
    have hb1 : Hid (Below w.heap.size w w1) := Lib.hid (Below.trans (b := ((w.alloc (.cells #[.int .i64 n, .int .i64 d] 48 (0, 0))).alloc (.cells #[.int .i64 m, .int .i64 c] 48 (0, 0))).alloc (.cells #[.int .i64 0, .int .i64 0] 48 (0, 0))) (bel_k2 w _ _ _) (b1.mono (by first | (simp; done) | (simp; omega))))
    have hsz0 := hr1.out.lt
    have hsz : w.heap.size < w1.heap.size := by omega
    have hs1 : s < w1.heap.size := by omega
    have hne : ¬ s = (w.heap.size + 1 + 1) := by omega
    have hne' : ¬ (w.heap.size + 1 + 1) = s := by omega
    obtain ⟨r0, r1, g0, g1⟩ := hr1.out.cells
    obtain ⟨c1, f1⟩ := ht1.out.cell
    clear b1
    go_wp2_with fail
    refine bodyPost_ret (v := .agg #[.int .i64 (redN (n * m) (d * c)), .int .i64 (redD (n * m) (d * c))]) (by simp [results, Try.results187, go_sem, r0, r1, hne, hne', hsz, hsz0]) rfl ?_
    refine ⟨_, _, rfl, ?_, ?_⟩
    · refine red_q _ _ HDD.out _ _ ?_
      repeat (first | exact ht1.out | refine St.far ?_ (by simp; omega) _ | refine St.set (c := 0) ?_ | refine St.alloc ?_ _)
    · repeat (first | exact Kept.of_below hb1.out _ _ | refine Kept.setCell ?_ (by first | exact .inl ⟨Nat.le_refl _, by simp⟩ | exact .inr (by simp <;> omega)) _ | refine Kept.alloc ?_ _)
set_option maxHeartbeats 2000000 in
theorem spec_l19Add_c (s : Nat) (q : Option (Int × Int)) (n d m c : Int) (w : World) (h : St w s (cdQ q)) (hab : ∀ x, q = some x → isR n d = true ∧ isR m c = true) :
    Calls Try.prog 148 #[.pointer (some ⟨s, 0, none⟩), .agg #[.int .i64 n, .int .i64 d], .agg #[.int .i64 m, .int .i64 c]] w (SR s (q.bind fun x => ratQ (n * c + m * d) (d * c)) w) := by
  obtain ⟨c0, f0⟩ := h.cell
  have hs := h.lt
  have hs' : s < w.heap.size + 1 := by omega
  have hs'' : s < w.heap.size + 1 + 1 := by omega
  cases q with
  | none =>
    rw [cdQ_none] at c0
    have H := Lib.hid h
    clear h
    go_enter Try.func148, Try.ntmps148
    go_wp2_with fail
    refine bodyPost_ret (v := .agg #[.int .i64 0, .int .i64 1]) (by simp [results, Try.results148, go_sem]) rfl ?_
    refine ⟨0, 1, rfl, ⟨?_, fun x hx => by simp at hx⟩, ?_⟩
    · repeat (first | exact H.out | refine St.far ?_ (by simp; omega) _ | refine St.alloc ?_ _)
    · repeat (first | exact Kept.refl _ _ _ | refine Kept.setCell ?_ (.inr (by simp <;> omega)) _ | refine Kept.alloc ?_ _)
  | some x =>
    rw [cdQ_some] at c0
    obtain ⟨K1, K2⟩ := hab _ rfl
    have hdd : 0 < d * c := by
      have := (isR_iff.1 K1).2.2.1
      have := (isR_iff.1 K2).2.2.1
      exact Int.mul_pos (by omega) (by omega)
    have HDD := Lib.hid hdd
    clear hdd
    have H := Lib.hid h
    clear h
    go_enter Try.func148, Try.ntmps148
    go_wp2_with fail
    refine (spec_AddRatios_c _ _ _ _ _ K1 K2).mono ?_
    rintro e w1 ⟨rfl, b1⟩
    have hr1 : Hid (R2 w1 (w.heap.size + 1 + 1) 0 0) := Lib.hid (by simpa using (R2.new ((w.alloc (.cells #[.int .i64 n, .int .i64 d] 48 (0, 0))).alloc (.cells #[.int .i64 m, .int .i64 c] 48 (0, 0))) 0 0).below b1)
    have ht1 := Lib.hid ((H.out.al.al.al).below b1)
    have hb1 : Hid (Below w.heap.size w w1) := Lib.hid (Below.trans (b := ((w.alloc (.cells #[.int .i64 n, .int .i64 d] 48 (0, 0))).alloc (.cells #[.int .i64 m, .int .i64 c] 48 (0, 0))).alloc (.cells #[.int .i64 0, .int .i64 0] 48 (0, 0))) (bel_k2 w _ _ _) (b1.mono (by first | (simp; done) | (simp; omega))))
    have hsz0 := hr1.out.lt
    have hsz : w.heap.size < w1.heap.size := by omega
    have hs1 : s < w1.heap.size := by omega
    have hne : ¬ s = (w.heap.size + 1 + 1) := by omega
    have hne' : ¬ (w.heap.size + 1 + 1) = s := by omega
    obtain ⟨r0, r1, g0, g1⟩ := hr1.out.cells
    obtain ⟨c1, f1⟩ := ht1.out.cell
    clear b1
    go_wp2_with fail
    refine bodyPost_ret (v := .agg #[.int .i64 (redN (n * c + m * d) (d * c)), .int .i64 (redD (n * c + m * d) (d * c))]) (by simp [results, Try.results148, go_sem, r0, r1, hne, hne', hsz, hsz0]) rfl ?_
    refine ⟨_, _, rfl, ?_, ?_⟩
    · refine red_q _ _ HDD.out _ _ ?_
      repeat (first | exact ht1.out | refine St.far ?_ (by simp; omega) _ | refine St.set (c := 0) ?_ | refine St.alloc ?_ _)
    · repeat (first | exact Kept.of_below hb1.out _ _ | refine Kept.setCell ?_ (by first | exact .inl ⟨Nat.le_refl _, by simp⟩ | exact .inr (by simp <;> omega)) _ | refine Kept.alloc ?_ _)
theorem spec_l19Whole_c (n : Int) (w : World) : Calls Try.prog 149 #[.int .i64 n] w fun e w' => e = .returned (.agg #[.int .i64 n, .int .i64 1]) ∧ Below w.heap.size w w' := by
  go_enter Try.func149, Try.ntmps149
  go_wp2_with fail
  refine bodyPost_ret (v := .agg #[.int .i64 n, .int .i64 1]) (by simp [results, Try.results149, go_sem]) rfl ?_
  exact ⟨rfl, bel_k0 w _⟩
end Go.Proofs.Ythpgkngkmmameaa
