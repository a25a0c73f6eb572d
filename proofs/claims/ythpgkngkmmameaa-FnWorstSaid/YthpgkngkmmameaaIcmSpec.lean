/-
  The contract of the spec's l29Equity. Conditions: a field, prizes, marks of which the player bears none.
-/
import Derived.Test.YthpgkngkmmameaaIcm
import Derived.Test.YthpgkngkmmameaaSteps
import Derived.Test.YthpgkngkmmameaaMarks
import Derived.Outline
import Derived.Deep.DrawnRows
namespace Go.Proofs.Ythpgkngkmmameaa
open Go.RowKit
attribute [local go_sem ↓] Go.wp_at_zero Go.wp_at_succ
set_option linter.unusedVariables false
theorem SQ.below {w w' : World} {s : Nat} {q : Option (Int × Int)} {n d : Int} (h : SQ w s q n d) (hb : Below w.heap.size w w') : SQ w' s q n d := ⟨h.st.below hb, h.v⟩
theorem SQ.al {w : World} {s : Nat} {q : Option (Int × Int)} {n d : Int} (h : SQ w s q n d) {o : Obj} : SQ (w.alloc o) s q n d := ⟨h.st.al, h.v⟩
theorem Kept.cellK {w w' : World} {lo hi : Nat} (h : Kept lo hi w w') {p : Addr} (hp : p.block < w.heap.size) (hd : ¬ (lo ≤ p.block ∧ p.block < hi)) : w'.cell? p = w.cell? p := World.cell?_of_block (h.block p.block hp hd)
theorem third {a b c : Prop} (h : a ∧ b ∧ c) : c := h.2.2
theorem Kept.two {lo hi : Nat} {a w : World} (h : Kept lo hi a w) {p r : Addr} (hp : a.heap.size ≤ p.block) (hr : a.heap.size ≤ r.block) {u v : Value} : Kept lo hi a ((w.setCell p u).setCell r v) := (h.setCell (.inr hp) u).setCell (.inr hr) v
theorem SQ.two {w : World} {s : Nat} {q : Option (Int × Int)} {n d : Int} (h : SQ w s q n d) {p r : Addr} (hp : p.block ≠ s) (hr : r.block ≠ s) {u v : Value} : SQ ((w.setCell p u).setCell r v) s q n d := ⟨(h.st.far hp u).far hr v, h.v⟩
theorem bind_val {r : Option (Int × Int)} {n d : Int} (h : ∀ x, r = some x → x = (n, d) ∧ isR n d = true) (f : Int → Int → Option (Int × Int)) : (r.bind fun _ => f n d) = r.bind fun z => f z.1 z.2 := by
  cases r with
  | none => rfl
  | some x => obtain ⟨rfl, -⟩ := h x rfl; rfl
/-- One step of the sum over the others, the marks being o. -/
def icmG (ps S : List Int) (o : List Bool) (i : Nat) (tot : Int) (acc : Option (Int × Int)) (j : Nat) : Option (Int × Int) := if o.getD j false = true ∨ j = i then acc else addO acc (mulO (ratQ (S.getD j 0) tot) (icmF ps S (o.set j true) i))
def icmT (ps S : List Int) (o : List Bool) (i : Nat) (tot : Int) (e : Option (Int × Int)) (t : Nat) : Option (Int × Int) := (List.range t).foldl (icmG ps S o i tot) e
theorem icmT_zero (ps S : List Int) (o : List Bool) (i : Nat) (tot : Int) (e : Option (Int × Int)) : icmT ps S o i tot e 0 = e := rfl
theorem icmT_step (ps S : List Int) (o : List Bool) (i : Nat) (tot : Int) (e : Option (Int × Int)) (t : Nat) : icmT ps S o i tot e (t + 1) = icmG ps S o i tot (icmT ps S o i tot e t) t := by
  unfold icmT
  rw [List.range_succ, List.foldl_append]
  rfl
theorem icmT_skip {ps S : List Int} {o : List Bool} {i t : Nat} {tot : Int} {e : Option (Int × Int)} (h : o.getD t false = true ∨ t = i) : icmT ps S o i tot e (t + 1) = icmT ps S o i tot e t := by rw [icmT_step]; unfold icmG; rw [if_pos h]
theorem icmT_go {ps S : List Int} {o : List Bool} {i t : Nat} {tot : Int} {e : Option (Int × Int)} (h : ¬ (o.getD t false = true ∨ t = i)) : icmT ps S o i tot e (t + 1) = addO (icmT ps S o i tot e t) (mulO (ratQ (S.getD t 0) tot) (icmF ps S (o.set t true) i)) := by rw [icmT_step]; unfold icmG; rw [if_neg h]
/-- The values of four steps are those of one sum of a product. -/
theorem icm_join {q T F R : Option (Int × Int)} {N D n1 d1 n2 d2 n3 d3 : Int} (h : ∀ x, (q.bind fun _ => T) = some x → x = (N, D) ∧ isR N D = true)
    (h1 : ∀ x, ((q.bind fun _ => T).bind fun _ => F) = some x → x = (n1, d1) ∧ isR n1 d1 = true) (h2 : ∀ x, (((q.bind fun _ => T).bind fun _ => F).bind fun _ => R) = some x → x = (n2, d2) ∧ isR n2 d2 = true)
    (h3 : ∀ x, ((((q.bind fun _ => T).bind fun _ => F).bind fun _ => R).bind fun _ => ratQ (n2 * n1) (d2 * d1)) = some x → x = (n3, d3) ∧ isR n3 d3 = true) :
    (((((q.bind fun _ => T).bind fun _ => F).bind fun _ => R).bind fun _ => ratQ (n2 * n1) (d2 * d1)).bind fun _ => ratQ (N * d3 + n3 * D) (D * d3)) = q.bind fun _ => addO T (mulO R F) := by
  cases q with
  | none => rfl
  | some v =>
    cases T with
    | none => rfl
    | some t =>
      cases F with
      | none => cases R <;> rfl
      | some f =>
        cases R with
        | none => rfl
        | some r =>
          obtain ⟨rfl, -⟩ := h _ rfl
          obtain ⟨rfl, -⟩ := h1 _ rfl
          obtain ⟨rfl, -⟩ := h2 _ rfl
          show ((ratQ (n2 * n1) (d2 * d1)).bind fun _ => ratQ (N * d3 + n3 * D) (D * d3)) = addO (some (N, D)) (ratQ (n2 * n1) (d2 * d1))
          have h3' : ∀ x, ratQ (n2 * n1) (d2 * d1) = some x → x = (n3, d3) ∧ isR n3 d3 = true := h3
          cases hq : ratQ (n2 * n1) (d2 * d1) with
          | none => rfl
          | some x =>
            obtain ⟨rfl, -⟩ := h3' x hq
            rfl
theorem RI.viaK {w0 w' : World} {s b off : Nat} {S : List Int} (hb : b < w0.heap.size) (hK : Kept s (s + 1) w0 w') (hne : ¬ b = s) (hc : ∀ (j : Nat) (x : Int), S[j]? = some x → w0.cell? ⟨b, off + j, none⟩ = some (.int .i64 x)) : RI w' (some ⟨b, off, none⟩) S :=
  .inr ⟨b, off, rfl, Nat.lt_of_lt_of_le hb hK.size, fun j x hx => (hK.cellK (p := ⟨b, off + j, none⟩) hb (by show ¬ (s ≤ b ∧ b < s + 1); omega)).trans (hc j x hx)⟩
theorem bind_some {α : Type} {q r : Option α} {x : α} (h : (q.bind fun _ => r) = some x) : ∃ y, q = some y := by
  cases q with
  | none => simp at h
  | some y => exact ⟨y, rfl⟩
theorem RowB.set_rb {w : World} {base g n c : Nat} {o : List Bool} (h : RowB w base (some ⟨g, 0, none⟩) n c o) {t : Nat} (ht : t < o.length) : RB (w.setCell ⟨g, t, none⟩ (.bool true)) (some ⟨g, 0, none⟩) (o.set t true) := by
  obtain ⟨-, hg, -, hc⟩ := h.parts
  refine .inr ⟨g, 0, rfl, by simpa [World.setCell] using hg, fun j x hx => ?_⟩
  rw [Nat.zero_add]
  by_cases hjt : t = j
  · subst hjt
    rw [List.getElem?_set_self ht] at hx
    injection hx with hx
    subst hx
    exact World.cell?_setCell_same w _ _ (hc t o[t] (List.getElem?_eq_getElem ht))
  · rw [List.getElem?_set_ne hjt] at hx
    rw [World.cell?_setCell_other _ _ _ _ (fun e => by injection e; omega)]
    exact hc j x hx
theorem icmF_first {p : Int} {ps S : List Int} {o : List Bool} {i : Nat} (h : ¬ ps = []) : icmF (p :: ps) S o i = icmT ps S o i (sumL (keepL S o)) ((ratQ (S.getD i 0) (sumL (keepL S o))).bind fun z => ratQ (z.1 * p) (z.2 * 1)) S.length := by
  conv => lhs; unfold icmF
  rw [if_neg h]
  rfl
/-- The contract for the prizes from a place on. -/
def EqS (ps : List Int) : Prop := ∀ (S P : List Int) (o : List Bool) (q : Option (Int × Int)) (s i k n c m d l e : Nat) (A B O : Option Addr) (w : World), S.length = n → P.length = m → o.length = l → l = n → P.drop k = ps → k < m → (∀ x ∈ S, 1 ≤ x ∧ x ≤ 1000) → n ≤ 5 → (∀ x ∈ P, 0 ≤ x ∧ x ≤ 100000) → i < n → o.getD i false = false → m ≤ 5 → St w s (cdQ q) → RI w A S → RI w B P → RB w O o → (∀ a, A = some a → ¬ a.block = s) → (∀ a, B = some a → ¬ a.block = s) → (∀ a, O = some a → ¬ a.block = s) →
   Calls Try.prog 179 #[.pointer (some ⟨s, 0, none⟩), .slice A n c, .slice B m d, .slice O l e, .int .i64 i, .int .i64 k] w (SR s (q.bind fun _ => icmF ps S o i) w)
/-- The call for the next place, on marks of one more. -/
theorem eqS_next {ps S P : List Int} {o : List Bool} {q : Option (Int × Int)} {s i k j m t b off b' off' g5 c5 c d : Nat} {w0 wr w5 : World} {N D p : Int} (ih : EqS ps) (hn : S.length = j) (hm : P.length = m) (hl : o.length = j) (hdp : P.drop k = p :: ps) (hps : ¬ ps = [])
    (hS : ∀ x ∈ S, 1 ≤ x ∧ x ≤ 1000) (hn5 : j ≤ 5) (hP : ∀ x ∈ P, 0 ≤ x ∧ x ≤ 100000) (hi : i < j) (ho : o.getD i false = false) (hm5 : m ≤ 5) (hti : ¬ t = i) (htj : t < j) (hsq : SQ wr s q N D) (hkp : Kept s (s + 1) w0 wr) (hB : Below wr.heap.size (wr.alloc (.cells #[] 4)) w5)
    (hrow : RowB w5 wr.heap.size (some ⟨g5, 0, none⟩) (0 + j) c5 ([] ++ o)) (hb : b < w0.heap.size) (hb' : b' < w0.heap.size) (hbs : ¬ b = s) (hbs' : ¬ b' = s) (hcS : ∀ (j : Nat) (x : Int), S[j]? = some x → w0.cell? ⟨b, off + j, none⟩ = some (.int .i64 x)) (hcP : ∀ (j : Nat) (x : Int), P[j]? = some x → w0.cell? ⟨b', off' + j, none⟩ = some (.int .i64 x)) :
    Calls Try.prog 179 #[.pointer (some ⟨s, 0, none⟩), .slice (some ⟨b, off, none⟩) j c, .slice (some ⟨b', off', none⟩) m d, .slice (some ⟨g5, 0, none⟩) j c5, .int .i64 i, .int .i64 ((k : Int) + 1)] (w5.setCell ⟨g5, t, none⟩ (.bool true)) fun e w7 => ∃ n1 d1 : Int, e = .returned (.agg #[.int .i64 n1, .int .i64 d1]) ∧ SQ w7 s (q.bind fun _ => icmF ps S (o.set t true) i) n1 d1 ∧ Kept s (s + 1) wr w7 := by
  have hlen : m = k + (ps.length + 1) := by
    have h1 := congrArg List.length hdp
    rw [List.length_drop, hm] at h1
    simp at h1
    omega
  have hpl : 1 ≤ ps.length := by
    have : ps.length ≠ 0 := fun h => hps (List.length_eq_zero_iff.1 h)
    omega
  have BW5 := (bel_k0 wr (.cells #[] 4)).trans hB
  rw [List.nil_append, Nat.zero_add] at hrow
  have p5a := hrow.parts.1
  have RB6 := RowB.set_rb hrow (t := t) (by omega)
  have lts := hsq.st.lt
  have BK := (Kept.of_below BW5 s (s + 1)).setCell (p := ⟨g5, t, none⟩) (.inr p5a) (.bool true)
  have K6 := hkp.trans BK
  have ST6 := (hsq.st.below BW5).far (p := ⟨g5, t, none⟩) (by show g5 ≠ s; omega) (.bool true)
  have H := ih S P (o.set t true) q s i (k + 1) j c m d j c5 (some ⟨b, off, none⟩) (some ⟨b', off', none⟩) (some ⟨g5, 0, none⟩) (w5.setCell ⟨g5, t, none⟩ (.bool true)) hn hm (by rw [List.length_set]; exact hl) rfl (by rw [← List.drop_drop, hdp]; rfl) (by omega) hS hn5 hP hi (by rw [getD_set_ne' hti]; exact ho) hm5 ST6 (RI.viaK hb K6 hbs hcS) (RI.viaK hb' K6 hbs' hcP) RB6 (fun a e => by injection e with e; subst e; exact hbs) (fun a e => by injection e with e; subst e; exact hbs') (fun a e => by injection e with e; subst e; show ¬ g5 = s; omega)
  rw [show (((k + 1 : Nat)) : Int) = (k : Int) + 1 from by omega] at H
  exact H.mono fun e w7 ⟨n1, d1, h1, h2, h3⟩ => ⟨n1, d1, h1, h2, BK.trans h3⟩
/-- What stays while the state alone is written. -/
theorem held_next {w6 : World} {s b off gs gr : Nat} {z N D n d : Int} (hz : w6.cell? ⟨b, off, none⟩ = some (.int .i64 z)) (hb : b < w6.heap.size) (hbs : ¬ b = s) (hgs : R2 w6 gs N D) (hs : ¬ gs = s) (hgr : R2 w6 gr n d) (hr : ¬ gr = s) : ∀ w' : World, Kept s (s + 1) w6 w' → w'.cell? ⟨b, off, none⟩ = some (.int .i64 z) ∧ w'.cell? ⟨gs, 0, none⟩ = some (.int .i64 N) ∧ w'.cell? ⟨gs, 1, none⟩ = some (.int .i64 D) ∧ w'.cell? ⟨gr, 0, none⟩ = some (.int .i64 n) ∧ w'.cell? ⟨gr, 1, none⟩ = some (.int .i64 d) ∧ Kept s (s + 1) w6 w' := fun w' hK => by
  obtain ⟨a0, a1, -, -⟩ := (hgs.kept hK (by omega)).cells
  obtain ⟨b0, b1, -, -⟩ := (hgr.kept hK (by omega)).cells
  exact ⟨(hK.cellK (p := ⟨b, off, none⟩) hb (by show ¬ (s ≤ b ∧ b < s + 1); omega)).trans hz, a0, a1, b0, b1, hK⟩
set_option maxRecDepth 1000000 in
set_option maxHeartbeats 8000000 in
theorem spec_l29Equity_t (S P : List Int) (o : List Bool) (q : Option (Int × Int)) (s i k n c m d e : Nat) (b off b' off' bo oo : Nat) (w : World) (p : Int) (ps : List Int) (hn : S.length = n) (hm : P.length = m) (hl : o.length = n) (hdp : P.drop k = p :: ps) (hk : k < m) (hS : ∀ x ∈ S, 1 ≤ x ∧ x ≤ 1000) (hn5 : n ≤ 5) (hP : ∀ x ∈ P, 0 ≤ x ∧ x ≤ 100000) (hi : i < n) (ho : o.getD i false = false) (hm5 : m ≤ 5) (hst : St w s (cdQ q))
   (hb : b < w.heap.size) (hb' : b' < w.heap.size) (hbo : bo < w.heap.size) (hbs : ¬ b = s) (hbs' : ¬ b' = s) (hbos : ¬ bo = s) (hcS : Hid (∀ (j : Nat) (x : Int), S[j]? = some x → w.cell? ⟨b, off + j, none⟩ = some (.int .i64 x))) (hcP : Hid (∀ (j : Nat) (x : Int), P[j]? = some x → w.cell? ⟨b', off' + j, none⟩ = some (.int .i64 x))) (hcO : Hid (∀ (j : Nat) (x : Bool), o[j]? = some x → w.cell? ⟨bo, oo + j, none⟩ = some (.bool x))) (ih : EqS ps) :
   Calls Try.prog 179 #[.pointer (some ⟨s, 0, none⟩), .slice (some ⟨b, off, none⟩) n c, .slice (some ⟨b', off', none⟩) m d, .slice (some ⟨bo, oo, none⟩) n e, .int .i64 i, .int .i64 k] w (SR s (q.bind fun _ => icmF (p :: ps) S o i) w) := by
  have HN := Lib.hid hn
  have HL := Lib.hid hl
  have HO := Lib.hid ho
  have HDP := Lib.hid hdp
  have HM := Lib.hid hm
  clear hn hl ho hdp hm
  have hS0 : Hid (∀ x ∈ S, 0 ≤ x ∧ x ≤ 1000) := Lib.hid (fun x hx => by have := hS x hx; omega)
  have hw1 := Lib.hid (bel_k0 w (.cells #[.int .i64 0, .int .i64 0] 48))
  go_enter Try.func179, Try.ntmps179
  go_wp2_with fail
  obtain ⟨w0, hw0⟩ : ∃ w0 : World, w0 = (w.alloc (.cells #[.int .i64 0, .int .i64 0] 48)) := ⟨_, rfl⟩
  rw [← hw0]
  rw [← hw0] at hw1
  have hcS0 := Lib.hid (fun (j : Nat) (x : Int) (hx : S[j]? = some x) => (hw1.out.cell (p := ⟨b, off + j, none⟩) hb).trans (hcS.out j x hx))
  have hcP0 := Lib.hid (fun (j : Nat) (x : Int) (hx : P[j]? = some x) => (hw1.out.cell (p := ⟨b', off' + j, none⟩) hb').trans (hcP.out j x hx))
  have hcO0 := Lib.hid (fun (j : Nat) (x : Bool) (hx : o[j]? = some x) => (hw1.out.cell (p := ⟨bo, oo + j, none⟩) hbo).trans (hcO.out j x hx))
  have hst0 := Lib.hid (hst.below hw1.out)
  have hres0 : Hid (R2 w0 w.heap.size 0 0) := Lib.hid (by rw [hw0]; exact R2.new w 0 0)
  clear hw0
  go_loopw [13, 14] (fun t u wr => ∃ j : Nat, t = .int .i64 (ksum S o j) ∧ u = .int .i64 j ∧ j ≤ n ∧ w0 = wr) (fun _ u _ => n - (intOf u).toNat)
  case atStart => exact ⟨0, rfl, rfl, Nat.zero_le _, rfl⟩
  case round =>
    obtain ⟨j, rfl, rfl, hj, rfl⟩ := hrel
    by_cases hlt : j < n
    · obtain ⟨x, hx⟩ := get_some (zs := S) (k := j) (by rw [HN.out]; exact hlt)
      obtain ⟨y, hy⟩ : ∃ y, o[j]? = some y := ⟨_, List.getElem?_eq_getElem (by rw [HL.out]; exact hlt)⟩
      have hcx := hcS0.out j x hx
      have hcy := hcO0.out j y hy
      obtain ⟨x0, x1⟩ := hS x (List.mem_of_getElem? hx)
      obtain ⟨k0, k1⟩ := ksum_bound (o := o) hS0.out (by decide) j
      have hxD : S.getD j 0 = x := by simp [List.getD, hx]
      have hyD : o.getD j false = y := by simp [List.getD, hy]
      have g1 : (j : Int) < (n : Int) := by omega
      have g2 : (0 : Int) ≤ (j : Int) := by omega
      have HK := Lib.hid (ksum_succ S o j)
      rw [hxD, hyD] at HK
      have hwx := IntWalk.i64_in (ksum S o j + x) (by omega)
      clear hx hy hxD hyD
      cases y
      · go_wp2_with fail
        go_roundw
        case rel => exact ⟨j + 1, by rw [HK.out]; simp, by go_num, by omega, trivial⟩
        case measure => simp [intOf]; omega
      · go_wp2_with fail
        go_roundw
        case rel => exact ⟨j + 1, by rw [HK.out]; simp, by go_num, by omega, trivial⟩
        case measure => simp [intOf]; omega
    · obtain rfl : j = n := by omega
      obtain ⟨x, hx⟩ := get_some (zs := S) (k := i) (by rw [HN.out]; exact hi)
      obtain ⟨y0, y1⟩ := hS x (List.mem_of_getElem? hx)
      have hpk : P[k]? = some p := by have := congrArg (fun l => l[0]?) HDP.out; simpa using this
      obtain ⟨p0, p1⟩ := hP p (List.mem_of_getElem? hpk)
      have hcx := hcS0.out i x hx
      have hcp := hcP0.out k p hpk
      have HXD := Lib.hid (show S.getD i 0 = x by simp [List.getD, hx])
      obtain ⟨t0, t1⟩ := ksum_bound (o := o) hS0.out (by decide) j
      have tp := ksum_pos (o := o) (fun x hx => (hS x hx).1) (by rw [HN.out]; exact hi) HO.out
      rw [HN.out] at tp
      have i1 : (i : Int) < (j : Int) := by omega
      have i2 : (0 : Int) ≤ (i : Int) := by omega
      have i3 : (k : Int) < (m : Int) := by omega
      have i4 : (0 : Int) ≤ (k : Int) := by omega
      have sz0 := hw1.out.size
      have lt0 := hres0.out.lt
      have mk : ∀ w' : World, Kept s (s + 1) w0 w' → w'.cell? ⟨b, off + i, none⟩ = some (.int .i64 x) ∧ w'.cell? ⟨b', off' + k, none⟩ = some (.int .i64 p) ∧ Kept s (s + 1) w0 w' := fun w' hK =>
        ⟨(hK.cellK (p := ⟨b, off + i, none⟩) (Nat.lt_of_lt_of_le hb sz0) (by show ¬ (s ≤ b ∧ b < s + 1); omega)).trans hcx, (hK.cellK (p := ⟨b', off' + k, none⟩) (Nat.lt_of_lt_of_le hb' sz0) (by show ¬ (s ≤ b' ∧ b' < s + 1); omega)).trans hcp, hK⟩
      have MK := Lib.hid mk
      clear mk hx hpk
      go_wp2_with fail
      go_cut [15] (fun s15 wx => ∃ (gs : Nat) (N D : Int), s15 = .pointer (some ⟨gs, 0, none⟩) ∧ Hid (SQ wx s ((q.bind fun _ => ratQ x (ksum S o j)).bind fun z => ratQ (z.1 * p) (z.2 * 1)) N D) ∧ Hid (R2 wx gs N D) ∧ Hid (Kept s (s + 1) w0 wx) ∧ w0.heap.size ≤ gs)
      case first =>
        have HR7 := Lib.hid (R2.new w0 0 0)
        go_region_held3 (fun w' => w'.cell? ⟨b, off + i, none⟩ = some (.int .i64 x) ∧ w'.cell? ⟨b', off' + k, none⟩ = some (.int .i64 p) ∧ Kept s (s + 1) w0 w')
          ((first
            | exact MK.out _ (Kept.refl _ _ _).drew
            | exact MK.out _ ((Kept.refl _ _ _).alloc _).drew
            | exact MK.out _ (Kept.alloc (third (by assumption)) _)
            | exact MK.out _ K3
            | exact MK.out _ K2
            | exact MK.out _ K1
            | exact MK.out _ (K3.alloc _)
            | exact MK.out _ (K2.alloc _)
            | exact MK.out _ (K1.alloc _)
            | exact MK.out _ (K3.two (by first | exact Nat.le_refl _ | exact K1.size | exact K2.size | exact K3.size) (by first | exact Nat.le_refl _ | exact K1.size | exact K2.size | exact K3.size))))
          ((first
            | (go_at_call 188; refine (spec_l29Ratio_c s q _ _ _ (by first | exact hst0.out | exact hst0.out.al) (by omega) (by omega) (by omega) (by omega)).mono ?_; rintro e w1 ⟨n1, d1, rfl, sq1, k1⟩; have K1 : Kept s (s + 1) w0 w1 := (by first | exact Kept.trans (b := w0.drew) (Kept.refl _ _ _).drew k1 | exact Kept.trans (b := (w0.alloc (.cells #[.int .i64 0, .int .i64 0] 48)).drew) ((Kept.refl _ _ _).alloc _).drew k1); (try (have Q1 : R2 w1 w0.heap.size 0 0 := R2.kept (w := (w0.alloc (.cells #[.int .i64 0, .int .i64 0] 48)).drew) (R2.drew HR7.out) k1 (by have := hst0.out.lt; omega))))
            | (go_at_call 149; refine (spec_l19Whole_c _ _).mono ?_; rintro e w2 ⟨rfl, b2⟩; have K2 : Kept s (s + 1) w0 w2 := (by first | exact Kept.trans K1 (Kept.of_below b2 _ _) | exact Kept.trans (K1.alloc _) (Kept.of_below b2 _ _)); have sq2 : SQ w2 s (q.bind fun _ => ratQ x (ksum S o j)) n1 d1 := (by first | exact sq1.below b2 | exact sq1.al.below b2); (try (first | (have Q2 : R2 w2 w0.heap.size 0 0 := Q1.below b2) | (have Q2 : R2 w2 w1.heap.size 0 0 := (R2.new w1 0 0).below b2))))
            | (go_at_call 187; refine (spec_l19Times_c s (q.bind fun _ => ratQ x (ksum S o j)) n1 d1 p 1 _ (by first | exact sq2.st | exact sq2.st.al) (fun z hz => ⟨(sq2.v z hz).2, okQ_whole (by omega) (by omega)⟩)).mono ?_; rintro e w3 ⟨n3, d3, rfl, sq3, k3⟩; have K3 : Kept s (s + 1) w0 w3 := (by first | exact Kept.trans K2 k3 | exact Kept.trans (K2.alloc _) k3); (try (first | (have Q3 : R2 w3 w0.heap.size 0 0 := Q2.kept k3 (by have := hst0.out.lt; omega); obtain ⟨q0, q1, f0, f1⟩ := Q3.cells) | (have Q3 : R2 w3 w1.heap.size 0 0 := Q2.kept k3 (by have := hst0.out.lt; have := K1.size; omega); obtain ⟨q0, q1, f0, f1⟩ := Q3.cells) | (have Q3 : R2 w3 w2.heap.size 0 0 := (R2.new w2 0 0).kept k3 (by have := hst0.out.lt; have := K2.size; omega); obtain ⟨q0, q1, f0, f1⟩ := Q3.cells))))))
        all_goals
          go_wp2_with fail
          go_meet
          have sq4 : SQ w3 s ((q.bind fun _ => ratQ x (ksum S o j)).bind fun z => ratQ (z.1 * p) (z.2 * 1)) n3 d3 := by
            rw [← bind_val sq2.v (fun a b => ratQ (a * p) (b * 1))]; exact sq3
          have ls := hst0.out.lt
          first
            | exact ⟨w3.heap.size, n3, d3, rfl, Lib.hid sq4.al, Lib.hid (R2.new w3 _ _), Lib.hid (K3.alloc _), K3.size⟩
            | exact ⟨w2.heap.size, n3, d3, rfl, Lib.hid (sq4.two (by have := K2.size; show w2.heap.size ≠ s; omega) (by have := K2.size; show w2.heap.size ≠ s; omega)), Lib.hid Q3.store, Lib.hid (K3.two K2.size K2.size), K2.size⟩
            | exact ⟨w1.heap.size, n3, d3, rfl, Lib.hid (sq4.two (by have := K1.size; show w1.heap.size ≠ s; omega) (by have := K1.size; show w1.heap.size ≠ s; omega)), Lib.hid Q3.store, Lib.hid (K3.two K1.size K1.size), K1.size⟩
            | exact ⟨w0.heap.size, n3, d3, rfl, Lib.hid (sq4.two (by show w0.heap.size ≠ s; omega) (by show w0.heap.size ≠ s; omega)), Lib.hid Q3.store, Lib.hid (K3.two (Nat.le_refl _) (Nat.le_refl _)), Nat.le_refl _⟩
      case rest =>
        obtain ⟨gs, N, D, rfl, hsq, hgs, hkp, hgl⟩ := hcut
        obtain ⟨w4, rfl⟩ : ∃ w4 : World, w4 = wc := ⟨_, rfl⟩
        have ls := hst.lt
        have hres4 := Lib.hid (hres0.out.kept hkp.out (by omega))
        have hkw := IntWalk.i64_in ((k : Int) + 1) (by omega)
        have hlen : m = k + (ps.length + 1) := by
          have h1 := congrArg List.length HDP.out
          rw [List.length_drop, HM.out] at h1
          simp at h1
          omega
        have HKS := Lib.hid (show sumL (keepL S o) = ksum S o j by rw [← ksum_keep, HN.out])
        obtain ⟨q0, q1, f0, f1⟩ := hgs.out.cells
        obtain ⟨r0, r1, f2, f3⟩ := hres4.out.cells
        have hne : ¬ gs = w.heap.size := by omega
        have hne' : ¬ w.heap.size = gs := by omega
        clear MK hcx hcp
        by_cases hps : ps = []
        · subst hps
          have hkB : ((k : Int) + 1 == (m : Int)) = true := by simp at hlen ⊢; omega
          go_wp2_with fail
          refine bodyPost_ret (v := .agg #[.int .i64 N, .int .i64 D]) (by simp [results, Try.results179, go_sem, r0, r1]) rfl ?_
          refine ⟨N, D, rfl, ?_, ?_⟩
          · have e : (q.bind fun _ => icmF [p] S o i) = (q.bind fun _ => ratQ x (ksum S o j)).bind fun z => ratQ (z.1 * p) (z.2 * 1) := by
              cases q with
              | none => rfl
              | some v =>
                show icmF [p] S o i = (ratQ x (ksum S o j)).bind fun z => ratQ (z.1 * p) (z.2 * 1)
                unfold icmF
                rw [if_pos rfl, HXD.out, HKS.out]
                rfl
            rw [e]
            exact hsq.out.two (by show w.heap.size ≠ s; omega) (by show w.heap.size ≠ s; omega)
          · exact ((((Kept.refl s (s + 1) w).trans (Kept.of_below hw1.out _ _)).trans hkp.out).setCell (p := ⟨w.heap.size, 0, none⟩) (.inr (Nat.le_refl _)) _).setCell (p := ⟨w.heap.size, 1, none⟩) (.inr (Nat.le_refl _)) _
        · have hkB : ((k : Int) + 1 == (m : Int)) = false := by
            have : ps.length ≠ 0 := fun h => hps (List.length_eq_zero_iff.1 h)
            simp
            omega
          have HF := Lib.hid (icmF_first (p := p) (S := S) (o := o) (i := i) hps)
          rw [HXD.out, HKS.out, HN.out] at HF
          clear q0 q1 f0 f1 r0 r1 f2 f3 hlen
          go_wp2_with fail
          go_loopw [16] (fun u wr => ∃ (t : Nat) (N D : Int), u = .int .i64 t ∧ t ≤ j ∧ Hid (SQ wr s (q.bind fun _ => icmT ps S o i (ksum S o j) ((ratQ x (ksum S o j)).bind fun z => ratQ (z.1 * p) (z.2 * 1)) t) N D) ∧ Hid (R2 wr gs N D) ∧ Hid (Kept s (s + 1) w0 wr)) (fun u _ => j - (intOf u).toNat)
          case atStart =>
            refine ⟨0, N, D, rfl, Nat.zero_le _, Lib.hid ?_, hgs, hkp⟩
            have e : (q.bind fun _ => icmT ps S o i (ksum S o j) ((ratQ x (ksum S o j)).bind fun z => ratQ (z.1 * p) (z.2 * 1)) 0) = (q.bind fun _ => ratQ x (ksum S o j)).bind fun z => ratQ (z.1 * p) (z.2 * 1) := by
              cases q <;> rfl
            rw [e]
            exact hsq.out
          case round =>
            have hres4' := hres4
            clear hsq hgs hkp hres4
            obtain ⟨t, N2, D2, rfl, ht, hsq, hgs, hkp⟩ := hrel
            by_cases htj : t < j
            · obtain ⟨y, hy⟩ : ∃ y, o[t]? = some y := ⟨_, List.getElem?_eq_getElem (by rw [HL.out]; exact htj)⟩
              obtain ⟨z, hz⟩ := get_some (zs := S) (k := t) (by rw [HN.out]; exact htj)
              obtain ⟨z0, z1⟩ := hS z (List.mem_of_getElem? hz)
              have g1 : (t : Int) < (j : Int) := by omega
              have g2 : (0 : Int) ≤ (t : Int) := by omega
              have HYD := Lib.hid (show o.getD t false = y by simp [List.getD, hy])
              have HZD := Lib.hid (show S.getD t 0 = z by simp [List.getD, hz])
              have hcy := (hkp.out.cellK (p := ⟨bo, oo + t, none⟩) (Nat.lt_of_lt_of_le hbo sz0) (by show ¬ (s ≤ bo ∧ bo < s + 1); omega)).trans (hcO0.out t y hy)
              have HZ := Lib.hid hz
              clear hy hz
              cases y
              · by_cases hti : t = i
                · have HB : ((t : Int) == (i : Int)) = true := by simp [hti]
                  have HS := Lib.hid (icmT_skip (ps := ps) (S := S) (o := o) (tot := ksum S o j) (e := (ratQ x (ksum S o j)).bind fun z => ratQ (z.1 * p) (z.2 * 1)) (.inr hti : o.getD t false = true ∨ t = i))
                  clear hti
                  go_wp2_with fail
                  go_roundw
                  case rel => exact ⟨t + 1, N2, D2, by go_num, by omega, by rw [HS.out]; exact hsq, hgs, hkp⟩
                  case measure => simp [intOf]; omega
                · have HB : ((t : Int) == (i : Int)) = false := by simp; omega
                  have HS := Lib.hid (icmT_go (ps := ps) (S := S) (tot := ksum S o j) (e := (ratQ x (ksum S o j)).bind fun z => ratQ (z.1 * p) (z.2 * 1)) (fun h => by
                    rcases h with h | h
                    · rw [HYD.out] at h; exact absurd h (by simp)
                    · exact hti h : ¬ (o.getD t false = true ∨ t = i)))
                  have hrow := RowB.empty wr (Nat.le_refl wr.heap.size)
                  have hcO1 := Lib.hid (fun (a : Nat) (u : Bool) (hu : o[a]? = some u) => (((bel_k0 wr (.cells #[] 4)).cell (p := ⟨bo, oo + a, none⟩) (Nat.lt_of_lt_of_le (Nat.lt_of_lt_of_le hbo sz0) hkp.out.size)).trans (hkp.out.cellK (p := ⟨bo, oo + a, none⟩) (Nat.lt_of_lt_of_le hbo sz0) (by show ¬ (s ≤ bo ∧ bo < s + 1); omega))).trans (hcO0.out a u hu))
                  have HYO := Lib.hid (show o[t]? = some false from by
                    have h1 := HYD.out
                    rw [List.getD, List.getElem?_eq_getElem (by rw [HL.out]; exact htj)] at h1
                    rw [List.getElem?_eq_getElem (by rw [HL.out]; exact htj)]
                    exact congrArg some h1)
                  have HTI := Lib.hid hti
                  clear hti
                  go_upto_region 16 with (at_builtin; refine wpList_appendB rfl _ _ rfl wr.heap.size (some ⟨wr.heap.size, 0, none⟩) 0 0 [] rfl hrow bo oo j e o rfl HL.out hcO1.out (by omega) (by omega) (by simp) ?_; intro g5 c5 w5 hr5 hb5; obtain ⟨p5a, p5b, p5c, p5d⟩ := hr5.parts; have f5 := p5c t; have e5 := p5d t false (by simpa using HYO.out); have RH5 := Lib.hid hr5; have BH5 := Lib.hid hb5; clear hr5 hb5 p5c p5d)
                  go_cut [18] (fun s18 wx => ∃ (gr : Nat) (n1 d1 : Int), s18 = .pointer (some ⟨gr, 0, none⟩) ∧ Hid (R2 wx gr n1 d1) ∧ Hid (SQ wx s ((q.bind fun _ => icmT ps S o i (ksum S o j) ((ratQ x (ksum S o j)).bind fun z => ratQ (z.1 * p) (z.2 * 1)) t).bind fun _ => icmF ps S (o.set t true) i) n1 d1) ∧ Hid (Kept s (s + 1) wr wx) ∧ wr.heap.size ≤ gr)
                  case first =>
                    have IHH := Lib.hid (eqS_next (c := c) (d := d) (off := off) (off' := off') (c5 := c5) ih HN.out HM.out HL.out HDP.out hps hS hn5 hP hi HO.out hm5 HTI.out htj hsq.out hkp.out BH5.out RH5.out (Nat.lt_of_lt_of_le hb sz0) (Nat.lt_of_lt_of_le hb' sz0) hbs hbs' hcS0.out hcP0.out)
                    go_wp2_with fail
                    refine IHH.out.mono ?_
                    rintro e w7 ⟨n1, d1, rfl, sq7, k7⟩
                    have SQ7 := Lib.hid sq7
                    have K7 := Lib.hid k7
                    clear sq7 k7 IHH
                    go_wp2_with fail
                    go_meet
                    exact ⟨w7.heap.size, n1, d1, rfl, Lib.hid (R2.new w7 _ _), Lib.hid SQ7.out.al, Lib.hid (K7.out.alloc _), K7.out.size⟩
                  case rest =>
                    obtain ⟨gr, n1, d1, rfl, hgr, hsq1, hk1, hgrl⟩ := hcut
                    obtain ⟨w6, rfl⟩ : ∃ w6 : World, w6 = wc := ⟨_, rfl⟩
                    have lts := hsq.out.st.lt
                    have K06 := Lib.hid (hkp.out.trans hk1.out)
                    have hgs6 := Lib.hid (hgs.out.kept hk1.out (by omega))
                    obtain ⟨q0, q1, f0, f1⟩ := hgs6.out.cells
                    obtain ⟨r0, r1, -, -⟩ := hgr.out.cells
                    have hcz := (K06.out.cellK (p := ⟨b, off + t, none⟩) (Nat.lt_of_lt_of_le hb sz0) (by show ¬ (s ≤ b ∧ b < s + 1); omega)).trans (hcS0.out t z HZ.out)
                    have sz6 := hk1.out.size
                    have gslt := hgs6.out.lt
                    have grlt := hgr.out.lt
                    have MK := Lib.hid (held_next hcz (Nat.lt_of_lt_of_le hb (Nat.le_trans sz0 K06.out.size)) hbs hgs6.out (by omega) hgr.out (by omega))
                    have HRR := Lib.hid (fun v hv => (hsq.out.v v hv).2)
                    go_wp2_with fail
                    go_region_with ((first
                      | (go_at_call 188; refine (spec_l29Ratio_c s _ _ _ _ (show St w6.drew s _ from hsq1.out.st) (by omega) (by omega) (by omega) (by omega)).mono ?_; rintro e w7 ⟨n2, d2, rfl, sq2, k2⟩; have K2 : Kept s (s + 1) w6 w7 := Kept.trans (b := w6.drew) (Kept.refl _ _ _).drew k2; obtain ⟨-, a1, a2, a3, a4, -⟩ := MK.out _ K2; have SQ2 := Lib.hid sq2; clear k2 sq2)
                      | (go_at_call 187; refine (spec_l19Times_c s _ n2 d2 n1 d1 _ SQ2.out.st (fun v hv => ⟨(SQ2.out.v v hv).2, by obtain ⟨y, hy⟩ := bind_some hv; exact (hsq1.out.v y hy).2⟩)).mono ?_; rintro e w8 ⟨n3, d3, rfl, sq3, k3⟩; have K3 : Kept s (s + 1) w6 w8 := Kept.trans K2 k3; obtain ⟨-, b1, b2, -, -, -⟩ := MK.out _ K3; have SQ3 := Lib.hid sq3; clear k3 sq3)
                      | (go_at_call 148; refine (spec_l19Add_c s _ N2 D2 n3 d3 _ SQ3.out.st (fun v hv => ⟨by obtain ⟨y, hy⟩ := bind_some hv; obtain ⟨y, hy⟩ := bind_some hy; obtain ⟨y, hy⟩ := bind_some hy; exact (hsq.out.v y hy).2, (SQ3.out.v v hv).2⟩)).mono ?_; rintro e w9 ⟨n4, d4, rfl, sq4, k4⟩; have K4 : Kept s (s + 1) w6 w9 := Kept.trans K3 k4; have SQ4 := Lib.hid sq4; clear k4 sq4; obtain ⟨s0, s1, s2, s3⟩ := (hgs6.out.kept K4 (by omega)).cells)))
                    all_goals
                      go_wp2_with fail
                      go_roundw
                      case rel =>
                        have e := icm_join hsq.out.v hsq1.out.v SQ2.out.v SQ3.out.v
                        have e2 := HS.out
                        rw [HZD.out] at e2
                        rw [← e2] at e
                        refine ⟨t + 1, n4, d4, by go_num, by omega, Lib.hid ?_, Lib.hid (hgs6.out.kept K4 (by omega)).store, Lib.hid ((K06.out.trans K4).two (p := ⟨gs, 0, none⟩) (r := ⟨gs, 1, none⟩) hgl hgl)⟩
                        rw [← e]
                        exact SQ4.out.two (p := ⟨gs, 0, none⟩) (r := ⟨gs, 1, none⟩) (by show gs ≠ s; omega) (by show gs ≠ s; omega)
                      case measure => simp [intOf]; omega
              · have HS := Lib.hid (icmT_skip (ps := ps) (S := S) (i := i) (tot := ksum S o j) (e := (ratQ x (ksum S o j)).bind fun z => ratQ (z.1 * p) (z.2 * 1)) (.inl HYD.out : o.getD t false = true ∨ t = i))
                go_wp2_with fail
                go_roundw
                case rel => exact ⟨t + 1, N2, D2, by go_num, by omega, by rw [HS.out]; exact hsq, hgs, hkp⟩
                case measure => simp [intOf]; omega
            · obtain rfl : t = j := by omega
              have hres9 := Lib.hid (hres0.out.kept hkp.out (by omega))
              obtain ⟨q0, q1, f0, f1⟩ := hgs.out.cells
              obtain ⟨r0, r1, f2, f3⟩ := hres9.out.cells
              go_wp2_with fail
              refine bodyPost_ret (v := .agg #[.int .i64 N2, .int .i64 D2]) (by simp [results, Try.results179, go_sem, r0, r1]) rfl ?_
              refine ⟨N2, D2, rfl, ?_, ?_⟩
              · rw [HF.out]
                exact hsq.out.two (by show w.heap.size ≠ s; omega) (by show w.heap.size ≠ s; omega)
              · exact ((((Kept.refl s (s + 1) w).trans (Kept.of_below hw1.out _ _)).trans hkp.out).setCell (p := ⟨w.heap.size, 0, none⟩) (.inr (Nat.le_refl _)) _).setCell (p := ⟨w.heap.size, 1, none⟩) (.inr (Nat.le_refl _)) _
theorem EqS.nil : EqS [] := by
  intro S P o q s i k n c m d l e A B O w _ hm _ _ hd hk
  have h1 := congrArg List.length hd
  rw [List.length_drop, hm] at h1
  simp at h1
  omega
theorem RB.split {w : World} {O : Option Addr} {o : List Bool} (h : RB w O o) (hl : 0 < o.length) : ∃ b off, O = some ⟨b, off, none⟩ ∧ b < w.heap.size ∧ ∀ (j : Nat) (x : Bool), o[j]? = some x → w.cell? ⟨b, off + j, none⟩ = some (.bool x) := by
  rcases h with h | h
  · subst h; simp at hl
  · exact h
set_option maxRecDepth 100000 in
theorem spec_l29Equity_e (ps : List Int) : EqS ps := by
  induction ps with
  | nil => exact EqS.nil
  | cons p ps ih =>
    intro S P o q s i k n c m d l e A B O w hn hm hl hln hd hk hS hn5 hP hi ho hm5 hst hrS hrP hrO hA hB hO
    subst hln
    rcases hrS.split with h0 | ⟨b, off, rfl, hb, hcS⟩
    · omega
    rcases hrP.split with h0 | ⟨b', off', rfl, hb', hcP⟩
    · omega
    obtain ⟨bo, oo, rfl, hbo, hcO⟩ := hrO.split (by omega)
    exact spec_l29Equity_t S P o q s i k l c m d e b off b' off' bo oo w p ps hn hm hl hd hk hS hn5 hP hi ho hm5 hst hb hb' hbo (hA _ rfl) (hB _ rfl) (hO _ rfl) hcS hcP (Lib.hid hcO) ih
end Go.Proofs.Ythpgkngkmmameaa
