/-
  The contract of equityIn. Conditions: a field, prizes, a player of it.
-/
import Derived.Test.YthpgkngkmmameaaDelete
import Derived.Test.YthpgkngkmmameaaRatOps
import Derived.Test.YthpgkngkmmameaaRicmD
import Derived.Test.YthpgkngkmmameaaPrizes
import Derived.Deep.DeepCutAuto
import Derived.Deep.RegionHeld3
import Derived.Deep.RegionWith
import Derived.Outline
namespace Go.Proofs.Ythpgkngkmmameaa
open Go.RowKit
set_option linter.unusedVariables false
theorem RI.al {w : World} {A : Option Addr} {zs : List Int} (h : RI w A zs) (o : Obj) : RI (w.alloc o) A zs := h.below ((Below.refl _ _).alloc (Nat.le_refl _) o)
theorem below_al (w : World) (o : Obj) : Below w.heap.size w (w.alloc o) := (Below.refl _ _).alloc (Nat.le_refl _) o
theorem R2.drew {w : World} {b : Nat} {x y : Int} (h : R2 w b x y) : R2 w.drew b x y := h
theorem R2.store {w : World} {b : Nat} {x y u v : Int} (h : R2 w b x y) : R2 ((w.setCell ⟨b, 0, none⟩ (.int .i64 u)).setCell ⟨b, 1, none⟩ (.int .i64 v)) b u v := by
  unfold R2 at h ⊢
  simp [World.setCell, Array.getElem?_modify, h]
theorem R2.far {w : World} {b : Nat} {x y : Int} (h : R2 w b x y) {p : Addr} (hp : p.block ≠ b) (u : Value) : R2 (w.setCell p u) b x y := (Below.heap_setCell w p u b (fun e => hp e.symm)).trans h
/-- A ratio or none, as it is handed back. -/
def icN (q : Option (Int × Int)) : Int := match q with | some x => x.1 | none => 0
def icD (q : Option (Int × Int)) : Int := match q with | some x => x.2 | none => 0
def icE (q : Option (Int × Int)) : Int := match q with | some _ => 0 | none => 3
theorem red_cases (n d : Int) : (redE n d = 0 ∧ ratQ n d = some (redN n d, redD n d)) ∨ (redE n d = 3 ∧ redN n d = 0 ∧ redD n d = 0 ∧ ratQ n d = none) := by
  unfold ratQ redE redN redD
  by_cases h : isR (redP n d) (redQ n d) = true
  · left; simp [h]
  · right; simp [h]
/-- What equityIn is given. -/
structure IcOk (S ps : List Int) (i : Nat) : Prop where
  s : ∀ x ∈ S, 1 ≤ x ∧ x ≤ 1000
  n : S.length ≤ 5
  p : ∀ x ∈ ps, 0 ≤ x ∧ x ≤ 100000
  l1 : 1 ≤ ps.length
  l2 : ps.length ≤ S.length
  i : i < S.length
theorem IcOk.sum {S ps : List Int} {i : Nat} (h : IcOk S ps i) : 1 ≤ sumL S ∧ sumL S ≤ 5000 := by
  have hi := h.i
  have hn := h.n
  have h1 := (sumL_bound (zs := S) (B := 1000) (by omega) (fun x hx => by have := h.s x hx; omega) S.length).2
  rw [List.take_length] at h1
  have pos : ∀ l : List Int, (∀ x ∈ l, 1 ≤ x) → 0 < l.length → 1 ≤ sumL l := by
    have app := sumL_app
    intro l
    induction l with
    | nil => intro _ h; simp at h
    | cons x l ih =>
      intro hx _
      have e : sumL (x :: l) = sumL [x] + sumL l := app [x] l
      have hx1 := hx x (by simp)
      have e1 : sumL [x] = x := by simp [sumL]
      have hl : 0 ≤ sumL l := by
        rcases Nat.eq_zero_or_pos l.length with h0 | h0
        · rw [List.length_eq_zero_iff.1 h0]; simp [sumL]
        · have := ih (fun y hy => hx y (by simp [hy])) h0; omega
      omega
  exact ⟨pos S (fun x hx => (h.s x hx).1) (by omega), by omega⟩
theorem icm_no_share {p : Int} {ps S : List Int} {i : Nat} (h : ratQ (S.getD i 0) (sumL S) = none) : icm (p :: ps) S i = none := by
  unfold icm
  rw [h]
  have : mulO none (some (p, 1)) = none := rfl
  rw [this]
  split
  · rfl
  · have hf := foldl_skip (fun j => decide (j = i)) (fun acc j => addO acc (mulO (ratQ (S.getD j 0) (sumL S)) (icm ps (S.eraseIdx j) (dropTo i j)))) (List.range S.length) none
    simp only [decide_eq_true_eq] at hf
    rw [hf, fold_none]
/-- One step of the equity's sum. -/
def icmS (ps S : List Int) (i : Nat) (acc : Option (Int × Int)) (j : Nat) : Option (Int × Int) := if j = i then acc else addO acc (mulO (ratQ (S.getD j 0) (sumL S)) (icm ps (S.eraseIdx j) (dropTo i j)))
/-- The equity's sum after k others. -/
def icmK (ps S : List Int) (i : Nat) (e : Option (Int × Int)) (k : Nat) : Option (Int × Int) := (List.range k).foldl (icmS ps S i) e
theorem icmK_zero (ps S : List Int) (i : Nat) (e : Option (Int × Int)) : icmK ps S i e 0 = e := rfl
theorem icmK_step (ps S : List Int) (i : Nat) (e : Option (Int × Int)) (k : Nat) : icmK ps S i e (k + 1) = icmS ps S i (icmK ps S i e k) k := by
  unfold icmK
  rw [List.range_succ, List.foldl_append]
  rfl
theorem icmS_none (ps S : List Int) (i j : Nat) : icmS ps S i none j = none := by
  unfold icmS
  split <;> rfl
theorem icmK_none (ps S : List Int) (i : Nat) (e : Option (Int × Int)) : ∀ (n k : Nat), k ≤ n → icmK ps S i e k = none → icmK ps S i e n = none := by
  intro n
  induction n with
  | zero => intro k hk h; obtain rfl : k = 0 := by omega
            exact h
  | succ n ih =>
    intro k hk h
    by_cases hkn : k = n + 1
    · subst hkn; exact h
    · rw [icmK_step, ih k (by omega) h, icmS_none]
theorem icm_first {p : Int} {ps S : List Int} {i : Nat} {a b : Int} (h : ratQ (S.getD i 0) (sumL S) = some (a, b)) : icm (p :: ps) S i = if ps = [] then ratQ (a * p) (b * 1) else icmK ps S i (ratQ (a * p) (b * 1)) S.length := by
  unfold icm
  rw [h]
  rfl
theorem icN_some (q : Int × Int) : icN (some q) = q.1 := rfl
theorem IcOk.next {S : List Int} {p : Int} {ps : List Int} {i k : Nat} (h : IcOk S (p :: ps) i) (hps : 1 ≤ ps.length) (hk : k < S.length) (hki : ¬ k = i) : IcOk (S.eraseIdx k) ps (dropTo i k) := by
  have h1 := h.n
  have h2 := h.l2
  have h3 := h.i
  simp only [List.length_cons] at h2
  have hl : (S.eraseIdx k).length = S.length - 1 := by rw [List.length_eraseIdx, if_pos hk]
  refine ⟨fun x hx => h.s x (List.mem_of_mem_eraseIdx hx), by omega, fun x hx => h.p x (by simp [hx]), hps, by omega, ?_⟩
  rw [hl]
  unfold dropTo
  split <;> omega
theorem R2.kept {w w' : World} {b lo hi : Nat} {x y : Int} (h : R2 w b x y) (hk : Kept lo hi w w') (hd : ¬ (lo ≤ b ∧ b < hi)) : R2 w' b x y := (hk.block b h.lt hd).trans h
theorem RI.tail {w : World} {b off : Nat} {x : Int} {zs : List Int} (h : RI w (some ⟨b, off, none⟩) (x :: zs)) : RI w (some ⟨b, off + 1, none⟩) zs := by
  rcases h with h | ⟨b', off', e, h2, h3⟩
  · cases h
  · injection e with e; injection e with e1 e2; subst e1 e2
    refine .inr ⟨b, off + 1, rfl, h2, fun j y hy => ?_⟩
    have := h3 (j + 1) y (by simpa using hy)
    rw [show off + 1 + j = off + (j + 1) by omega]
    exact this
theorem RI.drew {w : World} {A : Option Addr} {zs : List Int} (h : RI w A zs) : RI w.drew A zs := h
theorem slices_Delete_d (base g n c i : Nat) (zs : List Int) (w : World) (hrow : Row w base (some ⟨g, 0, none⟩) n c zs) (hi : i < n) (hm : n ≤ 1048576) :
    Calls Try.prog 160 #[.slice (some ⟨g, 0, none⟩) n c, .int .i64 i, .int .i64 ((i : Int) + 1)] w fun e w' => e = .returned (.slice (some ⟨g, 0, none⟩) (n - 1) c) ∧ OI w' g (g + 1) (some ⟨g, 0, none⟩) (zs.eraseIdx i) ∧ Kept g (g + 1) w w' := by
  have := slices_Delete_c base g n c i zs w hrow hi hm
  rw [show ((i + 1 : Nat) : Int) = (i : Int) + 1 by omega] at this
  exact this
/-- The contract for a list of prizes. -/
def EqC (ps : List Int) : Prop := ∀ (S : List Int) (i n c m d : Nat) (A B : Option Addr) (w : World), S.length = n → ps.length = m → m ≤ d → IcOk S ps i → RI w A S → RI w B ps →
   Calls Try.prog 106 #[.slice A n c, .slice B m d, .int .i64 i] w (RR w (icN (icm ps S i)) (icD (icm ps S i)) (icE (icm ps S i)))
theorem bel_al {a w : World} (h : Below a.heap.size a w) (o : Obj) : Below a.heap.size a (w.alloc o) := h.alloc h.size o
theorem bel_st {a w w' : World} (h : Below a.heap.size a w) (k : Below w.heap.size w w') : Below a.heap.size a w' := below_step h k h.size
theorem bel_two {a w : World} {p q : Addr} {u v : Value} (h : Below a.heap.size a w) (hp : a.heap.size ≤ p.block) (hq : a.heap.size ≤ q.block) : Below a.heap.size a ((w.setCell p u).setCell q v) := (h.setCell hp _).setCell hq _
theorem fourth {a b c d : Prop} (h : a ∧ b ∧ c ∧ d) : d := h.2.2.2
set_option maxRecDepth 1000000 in
set_option maxHeartbeats 8000000 in
theorem impl_equityIn_t (i : Nat) (n c m d : Nat) (S : List Int) (p : Int) (ps : List Int) (w : World) (hn : S.length = n) (b off b' off' : Nat) (hr : RI w (some ⟨b, off, none⟩) S) (hr' : RI w (some ⟨b', off', none⟩) (p :: ps)) (hl : (p :: ps).length = m) (hok : IcOk S (p :: ps) i) (hb : b < w.heap.size) (hb' : b' < w.heap.size) (hc : Hid (∀ (j : Nat) (x : Int), S[j]? = some x → w.cell? ⟨b, off + j, none⟩ = some (.int .i64 x))) (hcp : w.cell? ⟨b', off', none⟩ = some (.int .i64 p)) (ih : EqC ps) (hmd : m ≤ d) :
   Calls Try.prog 106 #[.slice (some ⟨b, off, none⟩) n c, .slice (some ⟨b', off', none⟩) m d, .int .i64 i] w (RR w (icN (icm (p :: ps) S i)) (icD (icm (p :: ps) S i)) (icE (icm (p :: ps) S i))) := by
  obtain ⟨hs0, hs1⟩ := hok.sum
  have hn5 := hok.n
  have hiS := hok.i
  obtain ⟨x, hx⟩ := get_some hiS
  obtain ⟨x0, x1⟩ := hok.s x (List.mem_of_getElem? hx)
  obtain ⟨p0, p1⟩ := hok.p p (by simp)
  have hcx := hc.out i x hx
  have hxD : S.getD i 0 = x := by simp [List.getD, hx]
  have hz := Lib.hid (show ∀ x ∈ S, -4000000000 ≤ x ∧ x ≤ 4000000000 from fun x hx => by have := hok.s x hx; omega)
  have hm : n ≤ 1048576 := by omega
  have hin : (i : Int) < (n : Int) := by omega
  have hi0 : (0 : Int) ≤ (i : Int) := by omega
  have hm0 : (0 : Int) < (m : Int) := by simp at hl; omega
  have hm0n : 0 < m := by simp at hl; omega
  have HN := Lib.hid hn
  have HL := Lib.hid hl
  have HXD := Lib.hid hxD
  have res0 := Lib.hid (R2.new w 0 0)
  rcases red_cases x (sumL S) with ⟨he, hq⟩ | ⟨he, hN0, hD0, hq⟩
  · have hR : isR (redN x (sumL S)) (redD x (sumL S)) = true := (ratQ_val (by omega) hq).1
    obtain ⟨ra0, ra1, rb0, rb1, -⟩ := isR_iff.1 hR
    have hP : isR p 1 = true := okQ_whole (by omega) (by omega)
    obtain ⟨a, ha⟩ : ∃ a, redN x (sumL S) = a := ⟨_, rfl⟩
    obtain ⟨bb, hbb⟩ : ∃ bb, redD x (sumL S) = bb := ⟨_, rfl⟩
    rw [ha, hbb] at hR hq
    rw [ha] at ra0 ra1
    rw [hbb] at rb0 rb1
    have HQ := Lib.hid hq
    have HRR := Lib.hid hR
    have HPP := Lib.hid hP
    have HA := Lib.hid ha
    have HBB := Lib.hid hbb
    have HE := Lib.hid he
    clear hn hl hx hxD he hq ha hbb hR hP
    go_enter Try.func106, Try.ntmps106
    go_wp2_with fail
    refine (impl_sumOf_c _ _ _ S _ HN.out hm (RI.al hr _) hz).mono ?_
    rintro e w' ⟨rfl, rfl⟩
    go_wp2_with fail
    refine (impl_reduced_c _ _ _ (by omega) (by omega) (by omega) (by omega)).mono ?_
    rintro e w1 ⟨rfl, b1⟩
    rw [HE.out, HA.out, HBB.out]
    have bW1 := Lib.hid ((below_al w (.cells #[.int .i64 0, .int .i64 0] 48)).trans (b1.mono (by simp)))
    have res1 := Lib.hid (res0.out.below b1)
    have hcp1 := (bW1.out.cell (p := ⟨b', off', none⟩) hb').trans hcp
    have sz1 : w.heap.size < w1.heap.size := res1.out.lt
    have sb1 : b' < w1.heap.size := by omega
    clear b1
    go_upto_region 5 with (fail)
    go_cut [10, 11] (fun s10 s11 wx => ∃ g : Nat, s10 = .int .i64 (redE (a * p) bb) ∧ s11 = .pointer (some ⟨g, 0, none⟩) ∧ Hid (R2 wx g (redN (a * p) bb) (redD (a * p) bb)) ∧ Hid (R2 wx w.heap.size 0 0) ∧ Hid (Below w.heap.size w wx) ∧ w.heap.size < g)
    case first =>
      have mk : ∀ w' : World, Below (w1.alloc (.cells #[.int .i64 a, .int .i64 bb] 48)).heap.size (w1.alloc (.cells #[.int .i64 a, .int .i64 bb] 48)) w' → w'.cell? ⟨b', off', none⟩ = some (.int .i64 p) ∧ w'.cell? ⟨w1.heap.size, 0, none⟩ = some (.int .i64 a) ∧ w'.cell? ⟨w1.heap.size, 1, none⟩ = some (.int .i64 bb) ∧ Below (w1.alloc (.cells #[.int .i64 a, .int .i64 bb] 48)).heap.size (w1.alloc (.cells #[.int .i64 a, .int .i64 bb] 48)) w' := by
        intro w' hB
        obtain ⟨k0, k1, -, -⟩ := ((R2.new w1 a bb).below hB).cells
        exact ⟨(((below_al w1 _).trans (hB.mono (by simp))).cell (p := ⟨b', off', none⟩) sb1).trans hcp1, k0, k1, hB⟩
      have MK := Lib.hid mk
      have NZ := Lib.hid (show R2 ((w1.alloc (.cells #[.int .i64 a, .int .i64 bb] 48)).alloc (.cells #[.int .i64 0, .int .i64 0] 48)) (w1.heap.size + 1) 0 0 by have := R2.new (w1.alloc (.cells #[.int .i64 a, .int .i64 bb] 48)) 0 0; simpa using this)
      have c5 := hcp1
      obtain ⟨k0, k1, -, -⟩ := (R2.new w1 a bb).cells
      clear mk
      go_region_held3 (fun w' => w'.cell? ⟨b', off', none⟩ = some (.int .i64 p) ∧ w'.cell? ⟨w1.heap.size, 0, none⟩ = some (.int .i64 a) ∧ w'.cell? ⟨w1.heap.size, 1, none⟩ = some (.int .i64 bb) ∧ Below (w1.alloc (.cells #[.int .i64 a, .int .i64 bb] 48)).heap.size (w1.alloc (.cells #[.int .i64 a, .int .i64 bb] 48)) w')
        ((first
          | exact MK.out _ (Below.refl _ _).drew
          | exact MK.out _ (bel_al (Below.refl _ _) _).drew
          | exact MK.out _ (bel_al (fourth (by assumption)) _)
          | exact MK.out _ (bel_st (fourth (by assumption)) b2)
          | exact MK.out _ HB2
          | exact MK.out _ (bel_al HB2 _)
          | exact MK.out _ (bel_two HB2 (by simp) (by simp))
          | exact MK.out _ (bel_two (fourth (by assumption)) (by simp) (by simp))))
        ((first
          | (go_at_call 159; refine (impl_MultiplyRatios_c _ _ _ _ _ HRR.out HPP.out).mono ?_; rintro e w2 ⟨rfl, b2⟩; have HB2 : Below (w1.alloc (.cells #[.int .i64 a, .int .i64 bb] 48)).heap.size (w1.alloc (.cells #[.int .i64 a, .int .i64 bb] 48)) w2 := (by first | exact bel_st (w := (w1.alloc (.cells #[.int .i64 a, .int .i64 bb] 48)).drew) (Below.refl _ _).drew b2 | exact bel_st (w := ((w1.alloc (.cells #[.int .i64 a, .int .i64 bb] 48)).alloc (.cells #[.int .i64 0, .int .i64 0] 48)).drew) (bel_al (Below.refl _ _) _).drew b2); (try (have Q : R2 w2 (w1.heap.size + 1) 0 0 := R2.below (w := ((w1.alloc (.cells #[.int .i64 a, .int .i64 bb] 48)).alloc (.cells #[.int .i64 0, .int .i64 0] 48)).drew) (R2.drew NZ.out) b2; obtain ⟨q0, q1, f0, f1⟩ := Q.cells; have QH := Lib.hid Q; clear Q)))))
      all_goals
        go_wp2_with fail
        go_meet
        have bWs : Below w.heap.size w (w1.alloc (.cells #[.int .i64 a, .int .i64 bb] 48)).drew := (below_step bW1.out (below_al w1 _) bW1.out.size).drew
        first
          | exact ⟨w2.heap.size, rfl, rfl, Lib.hid (R2.new w2 _ _), Lib.hid (R2.below (R2.below (w := (w1.alloc (.cells #[.int .i64 a, .int .i64 bb] 48)).drew) (R2.drew (res1.out.below (below_al w1 _))) b2) (below_al w2 _)), Lib.hid (below_step (below_step bWs b2 bWs.size) (below_al w2 _) (Nat.le_trans bWs.size b2.size)), by have := b2.size; simp at this; omega⟩
          | exact ⟨w1.heap.size + 1, rfl, rfl, Lib.hid QH.out.store, Lib.hid (R2.far (R2.far (R2.below (w := ((w1.alloc (.cells #[.int .i64 a, .int .i64 bb] 48)).alloc (.cells #[.int .i64 0, .int .i64 0] 48)).drew) (R2.drew ((res1.out.below (below_al w1 _)).below (below_al _ _))) b2) (by simp; omega) _) (by simp; omega) _), Lib.hid (((below_step (w := ((w1.alloc (.cells #[.int .i64 a, .int .i64 bb] 48)).alloc (.cells #[.int .i64 0, .int .i64 0] 48)).drew) (below_step (below_step bW1.out (below_al w1 _) bW1.out.size) (below_al _ _) (by simp; omega)).drew b2 (by simp; omega)).setCell (by simp; omega) _).setCell (by simp; omega) _), by omega⟩
    case rest =>
      obtain ⟨g, rfl, rfl, hg, hres, hbw, hgl⟩ := hcut
      have HI := Lib.hid (icm_first (p := p) (ps := ps) (S := S) (i := i) (by rw [HXD.out]; exact HQ.out))
      rw [Int.mul_one] at HI
      rcases red_cases (a * p) bb with ⟨he2, hq2⟩ | ⟨he2, hN2, hD2, hq2⟩
      · rw [he2]
        have HQ2 := Lib.hid hq2
        have hR2 : isR (redN (a * p) bb) (redD (a * p) bb) = true := (ratQ_val (by omega) hq2).1
        obtain ⟨e0, he0⟩ : ∃ e0, redN (a * p) bb = e0 := ⟨_, rfl⟩
        obtain ⟨d0, hd0⟩ : ∃ d0, redD (a * p) bb = d0 := ⟨_, rfl⟩
        rw [he0, hd0] at hR2 hg hq2
        have HRE := Lib.hid hR2
        have HQE := Lib.hid hq2
        clear hR2 hq2 he0 hd0 he2 HQ2
        by_cases hps : ps = []
        · have HIN := Lib.hid (show icm (p :: ps) S i = some (e0, d0) by rw [HI.out, if_pos hps, HQE.out])
          have hm1 : m = 1 := by rw [← HL.out, hps]; rfl
          have hmB : ((m : Int) == 1) = true := by rw [hm1]; rfl
          obtain ⟨q0, q1, f0, f1⟩ := hg.out.cells
          obtain ⟨r0, r1, f2, f3⟩ := hres.out.cells
          clear hps hm1
          go_wp2_with fail
          refine bodyPost_ret (v := .tuple #[.agg #[.int .i64 e0, .int .i64 d0], .int .i64 0]) (by simp [results, Try.results106, go_sem, r0, r1]) rfl ?_
          rw [HIN.out]
          exact RR.mk rfl rfl rfl ((hbw.out.setCell (p := ⟨w.heap.size, 0, none⟩) (Nat.le_refl _) _).setCell (p := ⟨w.heap.size, 1, none⟩) (Nat.le_refl _) _)
        · have HIN := Lib.hid (show icm (p :: ps) S i = icmK ps S i (some (e0, d0)) S.length by rw [HI.out, if_neg hps, HQE.out])
          have hm2 : 2 ≤ m := by
            rw [← HL.out]
            cases ps with
            | nil => exact absurd rfl hps
            | cons y l => simp
          have hmB : ((m : Int) == 1) = false := by simp; omega
          clear hps
          have hR0 := HRE
          have hK0 := Lib.hid (icmK_zero ps S i (some (e0, d0)))
          clear HRE HQE
          go_wp2_with fail
          obtain ⟨wo, rfl⟩ : ∃ wo : World, wo = wc := ⟨_, rfl⟩
          go_loopw [53] (fun s wr => ∃ (k : Nat) (N D : Int), s = .int .i64 k ∧ k ≤ n ∧ Hid (icmK ps S i (some (e0, d0)) k = some (N, D)) ∧ Hid (isR N D = true) ∧ Hid (R2 wr g N D) ∧ Hid (R2 wr w.heap.size 0 0) ∧ Hid (Below w.heap.size w wr)) (fun s _ => n - (intOf s).toNat)
          case atStart => exact ⟨0, e0, d0, rfl, Nat.zero_le _, hK0, hR0, hg, hres, hbw⟩
          case round =>
            clear hg hres hbw hK0 hR0
            obtain ⟨k, N, D, rfl, hk, hK, hRK, hg, hres, hbw⟩ := hrel
            by_cases hkn : k < n
            · have hdk : decide ((k : Int) < (n : Int)) = true := by simp; omega
              by_cases hki : k = i
              · have hkB : ((k : Int) == (i : Int)) = true := by simp [hki]
                have HK2 := Lib.hid (show icmK ps S i (some (e0, d0)) (k + 1) = some (N, D) by rw [icmK_step, hK.out]; unfold icmS; rw [if_pos hki])
                clear hki
                go_wp2_with fail
                go_roundw
                case rel => exact ⟨k + 1, N, D, by go_num, by omega, HK2, hRK, hg, hres, hbw⟩
                case measure => simp [intOf]; omega
              · have hkB : ((k : Int) == (i : Int)) = false := by simp; omega
                obtain ⟨y, hy⟩ := get_some (zs := S) (k := k) (by rw [HN.out]; exact hkn)
                obtain ⟨y0, y1⟩ := hok.s y (List.mem_of_getElem? hy)
                have hcy := (hbw.out.cell (p := ⟨b, off + k, none⟩) hb).trans (hc.out k y hy)
                have HYD := Lib.hid (show S.getD k 0 = y by simp [List.getD, hy])
                have bk1 : (k : Int) < (n : Int) := by omega
                have bk2 : (0 : Int) ≤ (k : Int) := by omega
                clear hy
                have hrk := Lib.hid (hr.below hbw.out)
                rcases red_cases y (sumL S) with ⟨he, hq⟩ | ⟨he, hN0, hD0, hq⟩
                · have hRS : isR (redN y (sumL S)) (redD y (sumL S)) = true := (ratQ_val (by omega) hq).1
                  obtain ⟨sa, hsa⟩ : ∃ sa, redN y (sumL S) = sa := ⟨_, rfl⟩
                  obtain ⟨sb, hsb⟩ : ∃ sb, redD y (sumL S) = sb := ⟨_, rfl⟩
                  rw [hsa, hsb] at hRS hq
                  have HRS := Lib.hid hRS
                  have HQS := Lib.hid hq
                  have HE1 := Lib.hid he
                  have HA1 := Lib.hid hsa
                  have HB1 := Lib.hid hsb
                  clear hRS hq he hsa hsb
                  go_wp2_with fail
                  refine (impl_reduced_c _ _ _ (by omega) (by omega) (by omega) (by omega)).mono ?_
                  rintro e w3 ⟨rfl, b3⟩
                  rw [HE1.out, HA1.out, HB1.out]
                  have hg3 := Lib.hid (hg.out.below b3)
                  have hres3 := Lib.hid (hres.out.below b3)
                  have hbw3 := Lib.hid (below_step hbw.out b3 hbw.out.size)
                  have hrk3 := Lib.hid (hr.below hbw3.out)
                  have hpk3 := Lib.hid (hr'.below hbw3.out)
                  have sz3 : w.heap.size < w3.heap.size := hres3.out.lt
                  have gz3 : g < w3.heap.size := hg3.out.lt
                  clear hg hres hbw b3 hcy
                  by_cases hlt : k < i
                  · have hltI : (k : Int) < (i : Int) := by omega
                    have hown : (i : Int) - 1 = ((i - 1 : Nat) : Int) := by omega
                    have hwk : IntKind.i64.wrap ((k : Int) + 1) = (k : Int) + 1 := by rw [IntKind.wrap_i64]; omega
                    have hdt : dropTo i k = i - 1 := by unfold dropTo; rw [if_pos hlt]
                    have IOK := Lib.hid (show IcOk (S.eraseIdx k) ps (i - 1) by rw [← hdt]; exact hok.next (by have := HL.out; simp at this; omega) (by rw [HN.out]; exact hkn) hki)
                    have hd1 : ¬ d = 1 := by omega
                    have hm1 : (1 : Int) ≤ (m : Int) := by omega
                    have hm1' : 1 ≤ m := by omega
                    have hmd' : (m : Int) ≤ (d : Int) := by omega
                    have HDT := Lib.hid hdt
                    clear hdt
                    go_upto_region 18 with (fail)
                    go_cut [14, 16] (fun s14 s16 wx => ∃ gr : Nat, s14 = .int .i64 (icE (icm ps (S.eraseIdx k) (i - 1))) ∧ s16 = .pointer (some ⟨gr, 0, none⟩) ∧ Hid (R2 wx gr (icN (icm ps (S.eraseIdx k) (i - 1))) (icD (icm ps (S.eraseIdx k) (i - 1)))) ∧ Hid (Below (w3.alloc (.cells #[.int .i64 sa, .int .i64 sb] 48)).heap.size (w3.alloc (.cells #[.int .i64 sa, .int .i64 sb] 48)) wx) ∧ w3.heap.size < gr)
                    case first =>
                      have NZ := Lib.hid (show R2 ((w3.alloc (.cells #[.int .i64 sa, .int .i64 sb] 48)).alloc (.cells #[.int .i64 0, .int .i64 0] 48)) (w3.heap.size + 1) 0 0 by have := R2.new (w3.alloc (.cells #[.int .i64 sa, .int .i64 sb] 48)) 0 0; simpa using this)
                      have bSW : Below w.heap.size w (w3.alloc (.cells #[.int .i64 sa, .int .i64 sb] 48)) := below_step hbw3.out (below_al w3 _) hbw3.out.size
                      have BSW := Lib.hid bSW
                      have hshs : (w3.alloc (.cells #[.int .i64 sa, .int .i64 sb] 48)).heap.size = w3.heap.size + 1 := by simp
                      have HSHS := Lib.hid hshs
                      clear bSW hshs
                      go_region_held3 (fun _ => True) (trivial)
                        ((first
                          | (go_at_call 161; refine (slices_Clone_c _ _ _ S _ HN.out (by omega) hm (by first | with_reducible exact RI.drew (hrk3.out.al _) | with_reducible exact RI.drew ((hrk3.out.al _).al _))).mono ?_; rintro e w4 ⟨g4, c4, rfl, o4, b4⟩; have HB4 : Below (w3.alloc (.cells #[.int .i64 sa, .int .i64 sb] 48)).heap.size (w3.alloc (.cells #[.int .i64 sa, .int .i64 sb] 48)) w4 := (by first | with_reducible exact bel_st (w := (w3.alloc (.cells #[.int .i64 sa, .int .i64 sb] 48)).drew) (Below.refl _ _).drew b4 | with_reducible exact bel_st (w := ((w3.alloc (.cells #[.int .i64 sa, .int .i64 sb] 48)).alloc (.cells #[.int .i64 0, .int .i64 0] 48)).drew) (bel_al (Below.refl _ _) _).drew b4); have hg4r := o4.parts.2.2.1; simp at hg4r; have hg4 : w3.heap.size < g4 := (by omega); have hg4' := o4.parts.2.2.2.1; (try (have Q4 : R2 w4 (w3.heap.size + 1) 0 0 := R2.below (w := ((w3.alloc (.cells #[.int .i64 sa, .int .i64 sb] 48)).alloc (.cells #[.int .i64 0, .int .i64 0] 48)).drew) (R2.drew NZ.out) b4)))
                          | (go_at_call 160; refine (slices_Delete_d _ g4 n c4 k S _ (by first | with_reducible exact o4 | with_reducible exact o4.alloc _) hkn hm).mono ?_; rintro e w5 ⟨rfl, o5, k5⟩; have HB5 : Below (w3.alloc (.cells #[.int .i64 sa, .int .i64 sb] 48)).heap.size (w3.alloc (.cells #[.int .i64 sa, .int .i64 sb] 48)) w5 := (by first | with_reducible exact HB4.trans (k5.below (by rw [HSHS.out]; omega) HB4.size) | with_reducible exact (bel_al HB4 _).trans (k5.below (by rw [HSHS.out]; omega) (bel_al HB4 _).size)); (try (first | (have Q5 : R2 w5 (w3.heap.size + 1) 0 0 := Q4.kept k5 (by omega)) | (have Q5 : R2 w5 w4.heap.size 0 0 := (R2.new w4 0 0).kept k5 (by omega)))))
                          | (go_at_call 106; refine (ih (S.eraseIdx k) (i - 1) _ _ _ _ _ _ _ (by rw [List.length_eraseIdx, if_pos (by rw [HN.out]; exact hkn), HN.out]) (by have := HL.out; simp at this; omega) (by omega) (IOK.out) (by first | with_reducible exact o5.ri | with_reducible exact o5.ri.al _) (by first | with_reducible exact (RI.tail hr').below (BSW.out.trans (HB5.mono (by rw [HSHS.out]; omega))) | with_reducible exact (RI.tail hr').below (BSW.out.trans ((bel_al HB5 _).mono (by rw [HSHS.out]; omega))))).mono ?_; rintro e w6 ⟨rfl, b6⟩; have HB6 : Below (w3.alloc (.cells #[.int .i64 sa, .int .i64 sb] 48)).heap.size (w3.alloc (.cells #[.int .i64 sa, .int .i64 sb] 48)) w6 := (by first | with_reducible exact bel_st HB5 b6 | with_reducible exact bel_st (bel_al HB5 _) b6); (try (first | (have Q6 : R2 w6 (w3.heap.size + 1) 0 0 := Q5.below b6; obtain ⟨q0, q1, f0, f1⟩ := Q6.cells) | (have Q6 : R2 w6 w4.heap.size 0 0 := Q5.below b6; obtain ⟨q0, q1, f0, f1⟩ := Q6.cells) | (have Q6 : R2 w6 w5.heap.size 0 0 := (R2.new w5 0 0).below b6; obtain ⟨q0, q1, f0, f1⟩ := Q6.cells))))))
                      all_goals
                        go_wp2_with fail
                        go_meet
                        first
                          | exact ⟨w6.heap.size, rfl, rfl, Lib.hid (R2.new w6 _ _), Lib.hid (bel_al HB6 _), by have := HB6.size; rw [HSHS.out] at this; omega⟩
                          | exact ⟨w5.heap.size, rfl, rfl, Lib.hid Q6.store, Lib.hid (bel_two HB6 HB5.size HB5.size), by have := HB5.size; rw [HSHS.out] at this; omega⟩
                          | exact ⟨w4.heap.size, rfl, rfl, Lib.hid Q6.store, Lib.hid (bel_two HB6 HB4.size HB4.size), by have := HB4.size; rw [HSHS.out] at this; omega⟩
                          | exact ⟨w3.heap.size + 1, rfl, rfl, Lib.hid Q6.store, Lib.hid (bel_two HB6 (by rw [HSHS.out]; exact Nat.le_refl _) (by rw [HSHS.out]; exact Nat.le_refl _)), by omega⟩
                    case rest =>
                      obtain ⟨gr, rfl, rfl, hgr, hbr, hgrl⟩ := hcut
                      obtain ⟨w4, rfl⟩ : ∃ w4 : World, w4 = wc := ⟨_, rfl⟩
                      have BSH : Below w.heap.size w (w3.alloc (.cells #[.int .i64 sa, .int .i64 sb] 48)) := below_step hbw3.out (below_al w3 _) hbw3.out.size
                      have hbw4 := Lib.hid (below_step BSH hbr.out BSH.size)
                      have hres4 := Lib.hid ((hres3.out.below (below_al w3 _)).below hbr.out)
                      have hg4 := Lib.hid ((hg3.out.below (below_al w3 _)).below hbr.out)
                      have hsh4 := Lib.hid ((R2.new w3 sa sb).below hbr.out)
                      clear BSH hres3 hg3 hbr hbw3 hrk3 hpk3
                      rcases hr2 : icm ps (S.eraseIdx k) (i - 1) with _ | ⟨N2, D2⟩
                      · rw [show icE none = 3 from rfl]
                        have HK2 := Lib.hid (show icm (p :: ps) S i = none by
                          rw [HIN.out]
                          refine icmK_none ps S i _ S.length (k + 1) (by rw [HN.out]; omega) ?_
                          rw [icmK_step, hK.out]
                          unfold icmS
                          rw [if_neg hki, HYD.out, HQS.out, HDT.out, hr2]
                          rfl)
                        clear hr2 hgr
                        obtain ⟨r0, r1, f2, f3⟩ := hres4.out.cells
                        go_wp2_with fail
                        refine bodyPost_ret (v := .tuple #[.agg #[.int .i64 0, .int .i64 0], .int .i64 3]) (by simp [results, Try.results106, go_sem, r0, r1]) rfl ?_
                        rw [HK2.out]
                        exact RR.mk rfl rfl rfl ((hbw4.out.setCell (p := ⟨w.heap.size, 0, none⟩) (Nat.le_refl _) _).setCell (p := ⟨w.heap.size, 1, none⟩) (Nat.le_refl _) _)
                      · rw [show icE (some (N2, D2)) = 0 from rfl]
                        have hR2' : isR N2 D2 = true := (icm_val ps (S.eraseIdx k) (i - 1) (N2, D2) (fun x hx => by have := IOK.out.s x hx; omega) IOK.out.i hr2).1
                        have HR2 := Lib.hid hR2'
                        obtain ⟨na0, na1, nb0, nb1, -⟩ := isR_iff.1 hR2'
                        obtain ⟨sa0, sa1, sb0, sb1, -⟩ := isR_iff.1 HRS.out
                        rw [hr2] at hgr
                        have hgr4 := Lib.hid (show R2 w4 gr N2 D2 from hgr.out)
                        have HR := Lib.hid hr2
                        clear hr2 hR2' hgr
                        go_upto_region 21 with (fail)
                        go_cut [14, 17] (fun s14 s17 wx => ∃ gp : Nat, s14 = .int .i64 (redE (sa * N2) (sb * D2)) ∧ s17 = .pointer (some ⟨gp, 0, none⟩) ∧ Hid (R2 wx gp (redN (sa * N2) (sb * D2)) (redD (sa * N2) (sb * D2))) ∧ Hid (Below w4.heap.size w4 wx) ∧ w4.heap.size ≤ gp)
                        case first =>
                          obtain ⟨k0, k1, -, -⟩ := hsh4.out.cells
                          obtain ⟨k2, k3, -, -⟩ := hgr4.out.cells
                          go_wp2_with fail
                          refine (impl_MultiplyRatios_c _ _ _ _ _ HRS.out HR2.out).mono ?_
                          rintro e w5 ⟨rfl, b5⟩
                          clear k0 k1 k2 k3
                          go_wp2_with fail
                          go_meet
                          exact ⟨w5.heap.size, rfl, rfl, Lib.hid (R2.new w5 _ _), Lib.hid (bel_al (bel_st (Below.refl _ _) b5) _), b5.size⟩
                        case rest =>
                          obtain ⟨gp, rfl, rfl, hgp, hbp, hgpl⟩ := hcut
                          obtain ⟨w6, rfl⟩ : ∃ w6 : World, w6 = wc := ⟨_, rfl⟩
                          have hbw6 := Lib.hid (below_step hbw4.out hbp.out hbw4.out.size)
                          have hres6 := Lib.hid (hres4.out.below hbp.out)
                          have hg6 := Lib.hid (hg4.out.below hbp.out)
                          clear hbp hbw4 hres4 hg4 hsh4 hgr4
                          rcases red_cases (sa * N2) (sb * D2) with ⟨he, hq⟩ | ⟨he, hN0, hD0, hq⟩
                          · rw [he]
                            have hsb : 0 < sb * D2 := Int.mul_pos (by omega) (by omega)
                            have hR3 : isR (redN (sa * N2) (sb * D2)) (redD (sa * N2) (sb * D2)) = true := (ratQ_val hsb hq).1
                            obtain ⟨n3, hn3⟩ : ∃ n3, redN (sa * N2) (sb * D2) = n3 := ⟨_, rfl⟩
                            obtain ⟨d3, hd3⟩ : ∃ d3, redD (sa * N2) (sb * D2) = d3 := ⟨_, rfl⟩
                            rw [hn3, hd3] at hR3 hgp hq
                            have HR3 := Lib.hid hR3
                            have HQ3 := Lib.hid hq
                            obtain ⟨e0', e1', e2', e3', -⟩ := isR_iff.1 hR3
                            obtain ⟨f0', f1', f2', f3', -⟩ := isR_iff.1 hRK.out
                            clear he hsb hq hn3 hd3 hR3
                            go_upto_region 24 with (fail)
                            go_cut [14] (fun s14 wx => s14 = .int .i64 (redE (N * d3 + n3 * D) (D * d3)) ∧ Hid (R2 wx g (redN (N * d3 + n3 * D) (D * d3)) (redD (N * d3 + n3 * D) (D * d3))) ∧ Hid (R2 wx w.heap.size 0 0) ∧ Hid (Below w.heap.size w wx))
                            case first =>
                              obtain ⟨k0, k1, -, -⟩ := hg6.out.cells
                              obtain ⟨k2, k3, -, -⟩ := hgp.out.cells
                              go_wp2_with fail
                              refine (impl_AddRatios_c _ _ _ _ _ hRK.out HR3.out).mono ?_
                              rintro e w7 ⟨rfl, b7⟩
                              have hg7 := Lib.hid (hg6.out.below b7)
                              clear k0 k1 k2 k3
                              obtain ⟨q0, q1, f0, f1⟩ := hg7.out.cells
                              go_wp2_with fail
                              go_meet
                              exact ⟨rfl, Lib.hid hg7.out.store, Lib.hid (((hres6.out.below b7).far (by simp; omega) _).far (by simp; omega) _), Lib.hid (((below_step hbw6.out b7 hbw6.out.size).setCell (by simp; omega) _).setCell (by simp; omega) _)⟩
                            case rest =>
                              obtain ⟨rfl, hg8, hres8, hbw8⟩ := hcut
                              obtain ⟨w8, rfl⟩ : ∃ w8 : World, w8 = wc := ⟨_, rfl⟩
                              clear hgp hbw6 hres6 hg6
                              rcases red_cases (N * d3 + n3 * D) (D * d3) with ⟨he, hq⟩ | ⟨he, hN0, hD0, hq⟩
                              · rw [he]
                                have hdd : 0 < D * d3 := Int.mul_pos (by omega) (by omega)
                                have HR5 := Lib.hid (show isR (redN (N * d3 + n3 * D) (D * d3)) (redD (N * d3 + n3 * D) (D * d3)) = true from (ratQ_val hdd hq).1)
                                have HK5 := Lib.hid (show icmK ps S i (some (e0, d0)) (k + 1) = some (redN (N * d3 + n3 * D) (D * d3), redD (N * d3 + n3 * D) (D * d3)) by
                                  rw [icmK_step, hK.out]
                                  unfold icmS
                                  rw [if_neg hki, HYD.out, HQS.out, HDT.out, HR.out, ← hq]
                                  show addO (some (N, D)) (ratQ (sa * N2) (sb * D2)) = _
                                  rw [HQ3.out]
                                  rfl)
                                clear he hq hdd
                                go_wp2_with fail
                                go_roundw
                                case rel => exact ⟨k + 1, _, _, by go_num, by omega, HK5, HR5, hg8, hres8, hbw8⟩
                                case measure => simp [intOf]; omega
                              · rw [he]
                                have HK2 := Lib.hid (show icm (p :: ps) S i = none by
                                  rw [HIN.out]
                                  refine icmK_none ps S i _ S.length (k + 1) (by rw [HN.out]; omega) ?_
                                  rw [icmK_step, hK.out]
                                  unfold icmS
                                  rw [if_neg hki, HYD.out, HQS.out, HDT.out, HR.out]
                                  show addO (some (N, D)) (ratQ (sa * N2) (sb * D2)) = none
                                  rw [HQ3.out]
                                  exact hq)
                                clear he hN0 hD0 hq
                                obtain ⟨r0, r1, f2, f3⟩ := hres8.out.cells
                                go_wp2_with fail
                                refine bodyPost_ret (v := .tuple #[.agg #[.int .i64 0, .int .i64 0], .int .i64 3]) (by simp [results, Try.results106, go_sem, r0, r1]) rfl ?_
                                rw [HK2.out]
                                exact RR.mk rfl rfl rfl ((hbw8.out.setCell (p := ⟨w.heap.size, 0, none⟩) (Nat.le_refl _) _).setCell (p := ⟨w.heap.size, 1, none⟩) (Nat.le_refl _) _)
                          · rw [he]
                            have HK2 := Lib.hid (show icm (p :: ps) S i = none by
                              rw [HIN.out]
                              refine icmK_none ps S i _ S.length (k + 1) (by rw [HN.out]; omega) ?_
                              rw [icmK_step, hK.out]
                              unfold icmS
                              rw [if_neg hki, HYD.out, HQS.out, HDT.out, HR.out]
                              show addO (some (N, D)) (ratQ (sa * N2) (sb * D2)) = none
                              rw [hq]
                              rfl)
                            clear he hN0 hD0 hq
                            obtain ⟨r0, r1, f2, f3⟩ := hres6.out.cells
                            go_wp2_with fail
                            refine bodyPost_ret (v := .tuple #[.agg #[.int .i64 0, .int .i64 0], .int .i64 3]) (by simp [results, Try.results106, go_sem, r0, r1]) rfl ?_
                            rw [HK2.out]
                            exact RR.mk rfl rfl rfl ((hbw6.out.setCell (p := ⟨w.heap.size, 0, none⟩) (Nat.le_refl _) _).setCell (p := ⟨w.heap.size, 1, none⟩) (Nat.le_refl _) _)
                  · have hltI : ¬ (k : Int) < (i : Int) := by omega
                    have hwk : IntKind.i64.wrap ((k : Int) + 1) = (k : Int) + 1 := by rw [IntKind.wrap_i64]; omega
                    have hdt : dropTo i k = i := by unfold dropTo; rw [if_neg hlt]
                    have IOK := Lib.hid (show IcOk (S.eraseIdx k) ps i by rw [← hdt]; exact hok.next (by have := HL.out; simp at this; omega) (by rw [HN.out]; exact hkn) hki)
                    have hd1 : ¬ d = 1 := by omega
                    have hm1 : (1 : Int) ≤ (m : Int) := by omega
                    have hm1' : 1 ≤ m := by omega
                    have hmd' : (m : Int) ≤ (d : Int) := by omega
                    have HDT := Lib.hid hdt
                    clear hdt
                    go_upto_region 18 with (fail)
                    go_cut [14, 16] (fun s14 s16 wx => ∃ gr : Nat, s14 = .int .i64 (icE (icm ps (S.eraseIdx k) i)) ∧ s16 = .pointer (some ⟨gr, 0, none⟩) ∧ Hid (R2 wx gr (icN (icm ps (S.eraseIdx k) i)) (icD (icm ps (S.eraseIdx k) i))) ∧ Hid (Below (w3.alloc (.cells #[.int .i64 sa, .int .i64 sb] 48)).heap.size (w3.alloc (.cells #[.int .i64 sa, .int .i64 sb] 48)) wx) ∧ w3.heap.size < gr)
                    case first =>
                      have NZ := Lib.hid (show R2 ((w3.alloc (.cells #[.int .i64 sa, .int .i64 sb] 48)).alloc (.cells #[.int .i64 0, .int .i64 0] 48)) (w3.heap.size + 1) 0 0 by have := R2.new (w3.alloc (.cells #[.int .i64 sa, .int .i64 sb] 48)) 0 0; simpa using this)
                      have bSW : Below w.heap.size w (w3.alloc (.cells #[.int .i64 sa, .int .i64 sb] 48)) := below_step hbw3.out (below_al w3 _) hbw3.out.size
                      have BSW := Lib.hid bSW
                      have hshs : (w3.alloc (.cells #[.int .i64 sa, .int .i64 sb] 48)).heap.size = w3.heap.size + 1 := by simp
                      have HSHS := Lib.hid hshs
                      clear bSW hshs
                      go_region_held3 (fun _ => True) (trivial)
                        ((first
                          | (go_at_call 161; refine (slices_Clone_c _ _ _ S _ HN.out (by omega) hm (by first | with_reducible exact RI.drew (hrk3.out.al _) | with_reducible exact RI.drew ((hrk3.out.al _).al _))).mono ?_; rintro e w4 ⟨g4, c4, rfl, o4, b4⟩; have HB4 : Below (w3.alloc (.cells #[.int .i64 sa, .int .i64 sb] 48)).heap.size (w3.alloc (.cells #[.int .i64 sa, .int .i64 sb] 48)) w4 := (by first | with_reducible exact bel_st (w := (w3.alloc (.cells #[.int .i64 sa, .int .i64 sb] 48)).drew) (Below.refl _ _).drew b4 | with_reducible exact bel_st (w := ((w3.alloc (.cells #[.int .i64 sa, .int .i64 sb] 48)).alloc (.cells #[.int .i64 0, .int .i64 0] 48)).drew) (bel_al (Below.refl _ _) _).drew b4); have hg4r := o4.parts.2.2.1; simp at hg4r; have hg4 : w3.heap.size < g4 := (by omega); have hg4' := o4.parts.2.2.2.1; (try (have Q4 : R2 w4 (w3.heap.size + 1) 0 0 := R2.below (w := ((w3.alloc (.cells #[.int .i64 sa, .int .i64 sb] 48)).alloc (.cells #[.int .i64 0, .int .i64 0] 48)).drew) (R2.drew NZ.out) b4)))
                          | (go_at_call 160; refine (slices_Delete_d _ g4 n c4 k S _ (by first | with_reducible exact o4 | with_reducible exact o4.alloc _) hkn hm).mono ?_; rintro e w5 ⟨rfl, o5, k5⟩; have HB5 : Below (w3.alloc (.cells #[.int .i64 sa, .int .i64 sb] 48)).heap.size (w3.alloc (.cells #[.int .i64 sa, .int .i64 sb] 48)) w5 := (by first | with_reducible exact HB4.trans (k5.below (by rw [HSHS.out]; omega) HB4.size) | with_reducible exact (bel_al HB4 _).trans (k5.below (by rw [HSHS.out]; omega) (bel_al HB4 _).size)); (try (first | (have Q5 : R2 w5 (w3.heap.size + 1) 0 0 := Q4.kept k5 (by omega)) | (have Q5 : R2 w5 w4.heap.size 0 0 := (R2.new w4 0 0).kept k5 (by omega)))))
                          | (go_at_call 106; refine (ih (S.eraseIdx k) i _ _ _ _ _ _ _ (by rw [List.length_eraseIdx, if_pos (by rw [HN.out]; exact hkn), HN.out]) (by have := HL.out; simp at this; omega) (by omega) (IOK.out) (by first | with_reducible exact o5.ri | with_reducible exact o5.ri.al _) (by first | with_reducible exact (RI.tail hr').below (BSW.out.trans (HB5.mono (by rw [HSHS.out]; omega))) | with_reducible exact (RI.tail hr').below (BSW.out.trans ((bel_al HB5 _).mono (by rw [HSHS.out]; omega))))).mono ?_; rintro e w6 ⟨rfl, b6⟩; have HB6 : Below (w3.alloc (.cells #[.int .i64 sa, .int .i64 sb] 48)).heap.size (w3.alloc (.cells #[.int .i64 sa, .int .i64 sb] 48)) w6 := (by first | with_reducible exact bel_st HB5 b6 | with_reducible exact bel_st (bel_al HB5 _) b6); (try (first | (have Q6 : R2 w6 (w3.heap.size + 1) 0 0 := Q5.below b6; obtain ⟨q0, q1, f0, f1⟩ := Q6.cells) | (have Q6 : R2 w6 w4.heap.size 0 0 := Q5.below b6; obtain ⟨q0, q1, f0, f1⟩ := Q6.cells) | (have Q6 : R2 w6 w5.heap.size 0 0 := (R2.new w5 0 0).below b6; obtain ⟨q0, q1, f0, f1⟩ := Q6.cells))))))
                      all_goals
                        go_wp2_with fail
                        go_meet
                        first
                          | exact ⟨w6.heap.size, rfl, rfl, Lib.hid (R2.new w6 _ _), Lib.hid (bel_al HB6 _), by have := HB6.size; rw [HSHS.out] at this; omega⟩
                          | exact ⟨w5.heap.size, rfl, rfl, Lib.hid Q6.store, Lib.hid (bel_two HB6 HB5.size HB5.size), by have := HB5.size; rw [HSHS.out] at this; omega⟩
                          | exact ⟨w4.heap.size, rfl, rfl, Lib.hid Q6.store, Lib.hid (bel_two HB6 HB4.size HB4.size), by have := HB4.size; rw [HSHS.out] at this; omega⟩
                          | exact ⟨w3.heap.size + 1, rfl, rfl, Lib.hid Q6.store, Lib.hid (bel_two HB6 (by rw [HSHS.out]; exact Nat.le_refl _) (by rw [HSHS.out]; exact Nat.le_refl _)), by omega⟩
                    case rest =>
                      obtain ⟨gr, rfl, rfl, hgr, hbr, hgrl⟩ := hcut
                      obtain ⟨w4, rfl⟩ : ∃ w4 : World, w4 = wc := ⟨_, rfl⟩
                      have BSH : Below w.heap.size w (w3.alloc (.cells #[.int .i64 sa, .int .i64 sb] 48)) := below_step hbw3.out (below_al w3 _) hbw3.out.size
                      have hbw4 := Lib.hid (below_step BSH hbr.out BSH.size)
                      have hres4 := Lib.hid ((hres3.out.below (below_al w3 _)).below hbr.out)
                      have hg4 := Lib.hid ((hg3.out.below (below_al w3 _)).below hbr.out)
                      have hsh4 := Lib.hid ((R2.new w3 sa sb).below hbr.out)
                      clear BSH hres3 hg3 hbr hbw3 hrk3 hpk3
                      rcases hr2 : icm ps (S.eraseIdx k) i with _ | ⟨N2, D2⟩
                      · rw [show icE none = 3 from rfl]
                        have HK2 := Lib.hid (show icm (p :: ps) S i = none by
                          rw [HIN.out]
                          refine icmK_none ps S i _ S.length (k + 1) (by rw [HN.out]; omega) ?_
                          rw [icmK_step, hK.out]
                          unfold icmS
                          rw [if_neg hki, HYD.out, HQS.out, HDT.out, hr2]
                          rfl)
                        clear hr2 hgr
                        obtain ⟨r0, r1, f2, f3⟩ := hres4.out.cells
                        go_wp2_with fail
                        refine bodyPost_ret (v := .tuple #[.agg #[.int .i64 0, .int .i64 0], .int .i64 3]) (by simp [results, Try.results106, go_sem, r0, r1]) rfl ?_
                        rw [HK2.out]
                        exact RR.mk rfl rfl rfl ((hbw4.out.setCell (p := ⟨w.heap.size, 0, none⟩) (Nat.le_refl _) _).setCell (p := ⟨w.heap.size, 1, none⟩) (Nat.le_refl _) _)
                      · rw [show icE (some (N2, D2)) = 0 from rfl]
                        have hR2' : isR N2 D2 = true := (icm_val ps (S.eraseIdx k) i (N2, D2) (fun x hx => by have := IOK.out.s x hx; omega) IOK.out.i hr2).1
                        have HR2 := Lib.hid hR2'
                        obtain ⟨na0, na1, nb0, nb1, -⟩ := isR_iff.1 hR2'
                        obtain ⟨sa0, sa1, sb0, sb1, -⟩ := isR_iff.1 HRS.out
                        rw [hr2] at hgr
                        have hgr4 := Lib.hid (show R2 w4 gr N2 D2 from hgr.out)
                        have HR := Lib.hid hr2
                        clear hr2 hR2' hgr
                        go_upto_region 21 with (fail)
                        go_cut [14, 17] (fun s14 s17 wx => ∃ gp : Nat, s14 = .int .i64 (redE (sa * N2) (sb * D2)) ∧ s17 = .pointer (some ⟨gp, 0, none⟩) ∧ Hid (R2 wx gp (redN (sa * N2) (sb * D2)) (redD (sa * N2) (sb * D2))) ∧ Hid (Below w4.heap.size w4 wx) ∧ w4.heap.size ≤ gp)
                        case first =>
                          obtain ⟨k0, k1, -, -⟩ := hsh4.out.cells
                          obtain ⟨k2, k3, -, -⟩ := hgr4.out.cells
                          go_wp2_with fail
                          refine (impl_MultiplyRatios_c _ _ _ _ _ HRS.out HR2.out).mono ?_
                          rintro e w5 ⟨rfl, b5⟩
                          clear k0 k1 k2 k3
                          go_wp2_with fail
                          go_meet
                          exact ⟨w5.heap.size, rfl, rfl, Lib.hid (R2.new w5 _ _), Lib.hid (bel_al (bel_st (Below.refl _ _) b5) _), b5.size⟩
                        case rest =>
                          obtain ⟨gp, rfl, rfl, hgp, hbp, hgpl⟩ := hcut
                          obtain ⟨w6, rfl⟩ : ∃ w6 : World, w6 = wc := ⟨_, rfl⟩
                          have hbw6 := Lib.hid (below_step hbw4.out hbp.out hbw4.out.size)
                          have hres6 := Lib.hid (hres4.out.below hbp.out)
                          have hg6 := Lib.hid (hg4.out.below hbp.out)
                          clear hbp hbw4 hres4 hg4 hsh4 hgr4
                          rcases red_cases (sa * N2) (sb * D2) with ⟨he, hq⟩ | ⟨he, hN0, hD0, hq⟩
                          · rw [he]
                            have hsb : 0 < sb * D2 := Int.mul_pos (by omega) (by omega)
                            have hR3 : isR (redN (sa * N2) (sb * D2)) (redD (sa * N2) (sb * D2)) = true := (ratQ_val hsb hq).1
                            obtain ⟨n3, hn3⟩ : ∃ n3, redN (sa * N2) (sb * D2) = n3 := ⟨_, rfl⟩
                            obtain ⟨d3, hd3⟩ : ∃ d3, redD (sa * N2) (sb * D2) = d3 := ⟨_, rfl⟩
                            rw [hn3, hd3] at hR3 hgp hq
                            have HR3 := Lib.hid hR3
                            have HQ3 := Lib.hid hq
                            obtain ⟨e0', e1', e2', e3', -⟩ := isR_iff.1 hR3
                            obtain ⟨f0', f1', f2', f3', -⟩ := isR_iff.1 hRK.out
                            clear he hsb hq hn3 hd3 hR3
                            go_upto_region 24 with (fail)
                            go_cut [14] (fun s14 wx => s14 = .int .i64 (redE (N * d3 + n3 * D) (D * d3)) ∧ Hid (R2 wx g (redN (N * d3 + n3 * D) (D * d3)) (redD (N * d3 + n3 * D) (D * d3))) ∧ Hid (R2 wx w.heap.size 0 0) ∧ Hid (Below w.heap.size w wx))
                            case first =>
                              obtain ⟨k0, k1, -, -⟩ := hg6.out.cells
                              obtain ⟨k2, k3, -, -⟩ := hgp.out.cells
                              go_wp2_with fail
                              refine (impl_AddRatios_c _ _ _ _ _ hRK.out HR3.out).mono ?_
                              rintro e w7 ⟨rfl, b7⟩
                              have hg7 := Lib.hid (hg6.out.below b7)
                              clear k0 k1 k2 k3
                              obtain ⟨q0, q1, f0, f1⟩ := hg7.out.cells
                              go_wp2_with fail
                              go_meet
                              exact ⟨rfl, Lib.hid hg7.out.store, Lib.hid (((hres6.out.below b7).far (by simp; omega) _).far (by simp; omega) _), Lib.hid (((below_step hbw6.out b7 hbw6.out.size).setCell (by simp; omega) _).setCell (by simp; omega) _)⟩
                            case rest =>
                              obtain ⟨rfl, hg8, hres8, hbw8⟩ := hcut
                              obtain ⟨w8, rfl⟩ : ∃ w8 : World, w8 = wc := ⟨_, rfl⟩
                              clear hgp hbw6 hres6 hg6
                              rcases red_cases (N * d3 + n3 * D) (D * d3) with ⟨he, hq⟩ | ⟨he, hN0, hD0, hq⟩
                              · rw [he]
                                have hdd : 0 < D * d3 := Int.mul_pos (by omega) (by omega)
                                have HR5 := Lib.hid (show isR (redN (N * d3 + n3 * D) (D * d3)) (redD (N * d3 + n3 * D) (D * d3)) = true from (ratQ_val hdd hq).1)
                                have HK5 := Lib.hid (show icmK ps S i (some (e0, d0)) (k + 1) = some (redN (N * d3 + n3 * D) (D * d3), redD (N * d3 + n3 * D) (D * d3)) by
                                  rw [icmK_step, hK.out]
                                  unfold icmS
                                  rw [if_neg hki, HYD.out, HQS.out, HDT.out, HR.out, ← hq]
                                  show addO (some (N, D)) (ratQ (sa * N2) (sb * D2)) = _
                                  rw [HQ3.out]
                                  rfl)
                                clear he hq hdd
                                go_wp2_with fail
                                go_roundw
                                case rel => exact ⟨k + 1, _, _, by go_num, by omega, HK5, HR5, hg8, hres8, hbw8⟩
                                case measure => simp [intOf]; omega
                              · rw [he]
                                have HK2 := Lib.hid (show icm (p :: ps) S i = none by
                                  rw [HIN.out]
                                  refine icmK_none ps S i _ S.length (k + 1) (by rw [HN.out]; omega) ?_
                                  rw [icmK_step, hK.out]
                                  unfold icmS
                                  rw [if_neg hki, HYD.out, HQS.out, HDT.out, HR.out]
                                  show addO (some (N, D)) (ratQ (sa * N2) (sb * D2)) = none
                                  rw [HQ3.out]
                                  exact hq)
                                clear he hN0 hD0 hq
                                obtain ⟨r0, r1, f2, f3⟩ := hres8.out.cells
                                go_wp2_with fail
                                refine bodyPost_ret (v := .tuple #[.agg #[.int .i64 0, .int .i64 0], .int .i64 3]) (by simp [results, Try.results106, go_sem, r0, r1]) rfl ?_
                                rw [HK2.out]
                                exact RR.mk rfl rfl rfl ((hbw8.out.setCell (p := ⟨w.heap.size, 0, none⟩) (Nat.le_refl _) _).setCell (p := ⟨w.heap.size, 1, none⟩) (Nat.le_refl _) _)
                          · rw [he]
                            have HK2 := Lib.hid (show icm (p :: ps) S i = none by
                              rw [HIN.out]
                              refine icmK_none ps S i _ S.length (k + 1) (by rw [HN.out]; omega) ?_
                              rw [icmK_step, hK.out]
                              unfold icmS
                              rw [if_neg hki, HYD.out, HQS.out, HDT.out, HR.out]
                              show addO (some (N, D)) (ratQ (sa * N2) (sb * D2)) = none
                              rw [hq]
                              rfl)
                            clear he hN0 hD0 hq
                            obtain ⟨r0, r1, f2, f3⟩ := hres6.out.cells
                            go_wp2_with fail
                            refine bodyPost_ret (v := .tuple #[.agg #[.int .i64 0, .int .i64 0], .int .i64 3]) (by simp [results, Try.results106, go_sem, r0, r1]) rfl ?_
                            rw [HK2.out]
                            exact RR.mk rfl rfl rfl ((hbw6.out.setCell (p := ⟨w.heap.size, 0, none⟩) (Nat.le_refl _) _).setCell (p := ⟨w.heap.size, 1, none⟩) (Nat.le_refl _) _)
                · have HK2 := Lib.hid (show icm (p :: ps) S i = none by
                    rw [HIN.out]
                    refine icmK_none ps S i _ S.length (k + 1) (by rw [HN.out]; omega) ?_
                    rw [icmK_step, hK.out]
                    unfold icmS
                    rw [if_neg hki, HYD.out, hq]
                    rfl)
                  have HE1 := Lib.hid he
                  have HA1 := Lib.hid hN0
                  have HB1 := Lib.hid hD0
                  clear hq he hN0 hD0
                  go_wp2_with fail
                  refine (impl_reduced_c _ _ _ (by omega) (by omega) (by omega) (by omega)).mono ?_
                  rintro e w3 ⟨rfl, b3⟩
                  rw [HE1.out, HA1.out, HB1.out]
                  have hres3 := Lib.hid (hres.out.below b3)
                  have hbw3 := Lib.hid (below_step hbw.out b3 hbw.out.size)
                  obtain ⟨r0, r1, f2, f3⟩ := hres3.out.cells
                  have sz3 : w.heap.size < w3.heap.size := hres3.out.lt
                  clear hg hres hbw b3 hcy
                  go_wp2_with fail
                  refine bodyPost_ret (v := .tuple #[.agg #[.int .i64 0, .int .i64 0], .int .i64 3]) (by simp [results, Try.results106, go_sem, r0, r1, sz3]) rfl ?_
                  rw [HK2.out]
                  exact RR.mk rfl rfl rfl (((hbw3.out.setCell (p := ⟨w.heap.size, 0, none⟩) (Nat.le_refl _) _).setCell (p := ⟨w.heap.size, 1, none⟩) (Nat.le_refl _) _).alloc (by simp [World.setCell]; omega) _)
            · have hke : k = S.length := by rw [HN.out]; omega
              have HF := Lib.hid (show icm (p :: ps) S i = some (N, D) by rw [HIN.out, ← hke]; exact hK.out)
              obtain ⟨q0, q1, f0, f1⟩ := hg.out.cells
              obtain ⟨r0, r1, f2, f3⟩ := hres.out.cells
              clear hke
              go_wp2_with fail
              refine bodyPost_ret (v := .tuple #[.agg #[.int .i64 N, .int .i64 D], .int .i64 0]) (by simp [results, Try.results106, go_sem, r0, r1]) rfl ?_
              rw [HF.out]
              exact RR.mk rfl rfl rfl ((hbw.out.setCell (p := ⟨w.heap.size, 0, none⟩) (Nat.le_refl _) _).setCell (p := ⟨w.heap.size, 1, none⟩) (Nat.le_refl _) _)
      · have HIN := Lib.hid (show icm (p :: ps) S i = none by
          rw [HI.out, hq2]
          split
          · rfl
          · exact icmK_none ps S i none _ 0 (Nat.zero_le _) rfl)
        rw [hN2, hD2] at hg
        rw [he2]
        obtain ⟨q0, q1, f0, f1⟩ := hg.out.cells
        obtain ⟨r0, r1, f2, f3⟩ := hres.out.cells
        clear he2 hN2 hD2 hq2
        go_wp2_with fail
        refine bodyPost_ret (v := .tuple #[.agg #[.int .i64 0, .int .i64 0], .int .i64 3]) (by simp [results, Try.results106, go_sem, r0, r1]) rfl ?_
        rw [HIN.out]
        exact RR.mk rfl rfl rfl ((hbw.out.setCell (p := ⟨w.heap.size, 0, none⟩) (Nat.le_refl _) _).setCell (p := ⟨w.heap.size, 1, none⟩) (Nat.le_refl _) _)
  · have HIN := Lib.hid (icm_no_share (p := p) (ps := ps) (S := S) (i := i) (by rw [hxD]; exact hq))
    have HE := Lib.hid he
    have HN0 := Lib.hid hN0
    have HD0 := Lib.hid hD0
    clear hn hl hx hxD he hq hN0 hD0
    go_enter Try.func106, Try.ntmps106
    go_wp2_with fail
    refine (impl_sumOf_c _ _ _ S _ HN.out hm (RI.al hr _) hz).mono ?_
    rintro e w' ⟨rfl, rfl⟩
    go_wp2_with fail
    refine (impl_reduced_c _ _ _ (by omega) (by omega) (by omega) (by omega)).mono ?_
    rintro e w1 ⟨rfl, b1⟩
    rw [HE.out, HN0.out, HD0.out]
    have bW1 := Lib.hid ((below_al w (.cells #[.int .i64 0, .int .i64 0] 48)).trans (b1.mono (by simp)))
    have res1 := Lib.hid (res0.out.below b1)
    obtain ⟨r0, r1, f2, f3⟩ := res1.out.cells
    have sz1 : w.heap.size < w1.heap.size := res1.out.lt
    have sz2 : ¬ w.heap.size = w1.heap.size := by omega
    clear b1
    go_wp2_with fail
    refine bodyPost_ret (v := .tuple #[.agg #[.int .i64 0, .int .i64 0], .int .i64 3]) (by simp [results, Try.results106, go_sem, r0, r1, sz1]) rfl ?_
    rw [HIN.out]
    exact RR.mk rfl rfl rfl (((bW1.out.setCell (p := ⟨w.heap.size, 0, none⟩) (Nat.le_refl _) _).setCell (p := ⟨w.heap.size, 1, none⟩) (Nat.le_refl _) _).alloc (by simp [World.setCell]; omega) _)
set_option maxRecDepth 100000 in
theorem impl_equityIn_e (ps : List Int) : EqC ps := by
  induction ps with
  | nil =>
    intro S i n c m d A B w hn hl hmd hok hr hr'
    have := hok.l1
    simp at this
  | cons p ps ih =>
    intro S i n c m d A B w hn hl hmd hok hr hr'
    have hiS := hok.i
    rcases hr.split with h0 | ⟨b, off, rfl, hb, hc⟩
    · omega
    rcases hr'.split with h0 | ⟨b', off', rfl, hb', hc'⟩
    · simp at h0
    exact impl_equityIn_t i n c m d S p ps w hn b off b' off' hr hr' hl hok hb hb' (Lib.hid hc) (by simpa using hc' 0 p rfl) ih hmd
theorem impl_equityIn_c (S ps : List Int) (i n c m d : Nat) (A B : Option Addr) (w : World) (hn : S.length = n) (hl : ps.length = m) (hmd : m ≤ d) (hok : IcOk S ps i) (hr : RI w A S) (hr' : RI w B ps) :
    Calls Try.prog 106 #[.slice A n c, .slice B m d, .int .i64 i] w (RR w (icN (icm ps S i)) (icD (icm ps S i)) (icE (icm ps S i))) := impl_equityIn_e ps S i n c m d A B w hn hl hmd hok hr hr'
end Go.Proofs.Ythpgkngkmmameaa
