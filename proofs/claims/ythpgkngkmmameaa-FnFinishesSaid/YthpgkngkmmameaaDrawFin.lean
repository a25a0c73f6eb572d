/-
  What the reference draws for chapter 31: events with finishes, events with eliminations. Conditions: a code of at most 1048576 bytes.
-/
import Derived.Test.YthpgkngkmmameaaDrawOut
import Derived.Test.YthpgkngkmmameaaDrawEv
import Derived.Test.YthpgkngkmmameaaFinSpec
import Derived.Outline
import Derived.Deep.DeepCutAuto
import Derived.Deep.RegionHeld3
namespace Go.Proofs.Ythpgkngkmmameaa
open Go.RowKit
set_option linter.unusedVariables false
theorem foV_len {N B F G : Int} {S : List Int} {rows : List (List Int)} (h : foE N B F G S rows = 0) : evB N B F G S = true ∧ 2 ≤ (foV N B F G S rows).length ∧ (foV N B F G S rows).length ≤ 60 ∧ ((foV N B F G S rows).length : Int) = N ∧ foA N rows = some (foV N B F G S rows) := by
  have hev : evB N B F G S = true := by
    by_cases hh : evB N B F G S = true
    · exact hh
    · unfold foE at h; rw [if_neg hh] at h; exact absurd h (by decide)
  have hN := (evB_iff.1 hev).1
  cases hf : foA N rows with
  | none => unfold foE at h; rw [if_pos hev, hf] at h; exact absurd h (by decide)
  | some f =>
    have hl : f.length = N.toNat := by
      unfold foA at hf
      cases hk : foK N rows rows.length with
      | none => rw [hk] at hf; cases hf
      | some s =>
        rw [hk] at hf
        simp only [Option.bind_some] at hf
        split at hf
        · cases hf
        · injection hf with hf; rw [← hf]; exact (foK_len _ hk).1
    have hv := (foE_some (F := F) hev hf).2
    rw [hv]
    exact ⟨hev, by omega, by omega, by omega, rfl⟩
theorem foK_bd {N : Int} {rows : List (List Int)} {s : List Int × List Bool × Int} (h0 : 0 ≤ N) (hz : ∀ g ∈ rows, g.length ≤ 1000) : ∀ k, k ≤ rows.length → foK N rows k = some s → (∀ x ∈ s.1, -(1000 * (k : Int)) ≤ x ∧ x ≤ N) ∧ -(1000 * (k : Int)) ≤ s.2.2 ∧ s.2.2 ≤ N
  | 0, _, h => by
    injection h with h
    subst h
    exact ⟨fun x hx => by have := (List.mem_replicate.1 hx).2; omega, by show -(1000 * ((0 : Nat) : Int)) ≤ N; omega, Int.le_refl _⟩
  | k + 1, hk, h => by
    simp only [foK] at h
    cases h1 : foK N rows k with
    | none => rw [h1] at h; cases h
    | some t =>
      rw [h1] at h
      obtain ⟨a, b, c⟩ := foK_bd h0 hz k (by omega) h1
      have hg := hz _ (List.getElem_mem (l := rows) (n := k) (by omega))
      rw [show rows[k] = rows.getD k [] by simp [List.getD, show k < rows.length by omega]] at hg
      simp only [Option.bind_some, grpS] at h
      split at h
      · cases h
      · cases h2 : goneK N (rows.getD k []) (rows.getD k []).length t.2.1 with
        | none => rw [h2] at h; cases h
        | some u =>
          rw [h2] at h
          injection h with h
          subst h
          have hL : -(1000 * ((k + 1 : Nat) : Int)) ≤ t.2.2 - ((rows.getD k []).length : Int) ∧ t.2.2 - ((rows.getD k []).length : Int) ≤ N := by push_cast; omega
          refine ⟨?_, hL.1, hL.2⟩
          have key : ∀ j, ∀ x ∈ putK (t.2.2 - ((rows.getD k []).length : Int)) (rows.getD k []) j t.1, -(1000 * ((k + 1 : Nat) : Int)) ≤ x ∧ x ≤ N := by
            intro j
            induction j with
            | zero => intro x hx; have := a x hx; push_cast; omega
            | succ j ih =>
              intro x hx
              simp only [putK] at hx
              rcases List.mem_or_eq_of_mem_set hx with hx | rfl
              · exact ih x hx
              · exact hL
          exact key _
theorem foV_bd {N B F G : Int} {S : List Int} {rows : List (List Int)} (hz : ∀ g ∈ rows, g.length ≤ 1000) (hl : rows.length ≤ 1000) (h : foE N B F G S rows = 0) : ∀ x ∈ foV N B F G S rows, -1000000 ≤ x ∧ x ≤ 1000000 := by
  obtain ⟨hev, -, -, -, hf⟩ := foV_len h
  have hN := (evB_iff.1 hev).1
  intro x hx
  unfold foA at hf
  cases hk : foK N rows rows.length with
  | none => rw [hk] at hf; cases hf
  | some s =>
    rw [hk] at hf
    simp only [Option.bind_some] at hf
    split at hf
    · cases hf
    · injection hf with hf
      have := (foK_bd (by omega) hz _ (Nat.le_refl _) hk).1 x (by rw [hf]; exact hx)
      omega
/-- An event with a list. -/
def DF (w : World) (e : Ending) (w' : World) : Prop := ∃ (N B F G : Int) (A : Option Addr) (n c : Nat) (S : List Int) (A' : Option Addr) (n' c' : Nat) (fs : List Int), e = .returned (.tuple #[.agg #[.int .i64 N, .int .i64 B, .int .i64 F, .int .i64 G, .slice A n c], .slice A' n' c']) ∧ Hid (S.length = n) ∧ n ≤ 6 ∧ OI w' w.heap.size w'.heap.size A S ∧ Hid (fs.length = n') ∧ n' ≤ 60 ∧ OI w' w.heap.size w'.heap.size A' fs ∧ Below w.heap.size w w'
theorem E5.store5 {T : TypeId} {w : World} {b : Nat} {N B F G : Int} {A : Option Addr} {n c : Nat} (h : E5 T w b 0 0 0 0 none 0 0) :
    E5 T (((((w.setCell ⟨b, 0, none⟩ (.int .i64 N)).setCell ⟨b, 1, none⟩ (.int .i64 B)).setCell ⟨b, 2, none⟩ (.int .i64 F)).setCell ⟨b, 3, none⟩ (.int .i64 G)).setCell ⟨b, 4, none⟩ (.slice A n c)) b N B F G A n c := by
  unfold E5 at h ⊢
  rw [heap_setCell_same _ b 4 _ T _ (heap_setCell_same _ b 3 _ T _ (heap_setCell_same _ b 2 _ T _ (heap_setCell_same _ b 1 _ T _ (heap_setCell_same w b 0 _ T _ h))))]
  simp
theorem DF.mk {w wA w' : World} {lo hi lo2 hi2 n c n' c' : Nat} {N B F G : Int} {A A' : Option Addr} {S fs : List Int} (hk : Kept w.heap.size (w.heap.size + 1) wA w') (h : Below w.heap.size w wA) (ho : OI wA lo hi A S) (ha : w.heap.size < lo) (hl : Hid (S.length = n)) (hn : n ≤ 6) (hf : OI wA lo2 hi2 A' fs) (hb : w.heap.size < lo2) (hfl : Hid (fs.length = n')) (hn' : n' ≤ 60) :
    DF w (.returned (.tuple #[.agg #[.int .i64 N, .int .i64 B, .int .i64 F, .int .i64 G, .slice A n c], .slice A' n' c'])) w' :=
  ⟨N, B, F, G, A, n, c, S, A', n', c', fs, rfl, hl, hn, (ho.kept hk (.inl (by omega))).topC (by omega), hfl, hn', (hf.kept hk (.inl (by omega))).topC (by omega), h.trans (hk.below (Nat.le_refl _) h.size)⟩
/-- An event with eliminations. -/
def DG (w : World) (e : Ending) (w' : World) : Prop := ∃ (N B F G : Int) (A : Option Addr) (n c : Nat) (S : List Int) (A' : Option Addr) (n' c' : Nat) (rows : List (List Int)), e = .returned (.tuple #[.agg #[.int .i64 N, .int .i64 B, .int .i64 F, .int .i64 G, .slice A n c], .slice A' n' c']) ∧ Hid (S.length = n) ∧ n ≤ 6 ∧ OI w' w.heap.size w'.heap.size A S ∧ Hid (rows.length = n') ∧ n' ≤ 1000 ∧ Hid (∀ g ∈ rows, g.length ≤ 1000) ∧ RM w' A' rows ∧ Below w.heap.size w w'
set_option maxRecDepth 100000 in
set_option maxHeartbeats 8000000 in
theorem spec_DrawAreFinishes_c (A : Option Addr) (n c : Nat) (bs : List Int) (w : World) (hn : bs.length = n) (hm : n ≤ 1048576) (hr : BR w A bs) :
    Calls Try.prog 118 #[.slice A n c] w (DF w) := by
  obtain ⟨W, hW⟩ : ∃ W, W = w.alloc (.cells #[.int .i64 0, .int .i64 0, .int .i64 0, .int .i64 0, .slice none 0 0] 58) := ⟨_, rfl⟩
  have E0 := Lib.hid (show E5 58 W w.heap.size 0 0 0 0 none 0 0 by rw [hW]; exact E5.new 58 w 0 0 0 0 none 0 0)
  have B0 := Lib.hid (show Below w.heap.size w W by rw [hW]; exact below_box _ _)
  have hsz : w.heap.size < W.heap.size := by rw [hW]; simp
  have hrW := Lib.hid (hr.below B0.out)
  have HW := Lib.hid hW
  clear hr
  go_enter Try.func118, Try.ntmps118
  go_wp2_with fail
  rw [← HW.out]
  refine (spec_l01From_c A n c bs _ hn hm hrW.out).mono ?_
  rintro e w0 ⟨g, rfl, hs0, hb0⟩
  have hgg := hs0.lt.1
  have E1 := Lib.hid (E0.out.below hb0)
  have B1 := Lib.hid (below_step B0.out hb0 B0.out.size)
  have hz0 := hb0.size
  have hg0 := hs0.lt.2
  clear hn hm hb0 hW hrW
  go_wp2_with fail
  refine (spec_l31Draw_c _ _ g hs0).mono ?_
  rintro e w1 ⟨N, B, F, G, A', n', c', S, rfl, hl, hn6, ho, hs1, hk1⟩
  have HO := Lib.hid (ho.below (below_box w1 (.cells #[.int .i64 N, .int .i64 B, .int .i64 F, .int .i64 G, .slice A' n' c'] 58)))
  have E2 := Lib.hid ((E1.out.kept hk1 (.inl (by omega))).al (.cells #[.int .i64 N, .int .i64 B, .int .i64 F, .int .i64 G, .slice A' n' c'] 58))
  have B2 := Lib.hid ((B1.out.trans (hk1.below (B := w.heap.size) (by omega) (by omega))).alloc (by have := hk1.size; omega) (.cells #[.int .i64 N, .int .i64 B, .int .i64 F, .int .i64 G, .slice A' n' c'] 58))
  have S2 := Lib.hid (hs1.alloc (.cells #[.int .i64 N, .int .i64 B, .int .i64 F, .int .i64 G, .slice A' n' c'] 58))
  have X2 := Lib.hid (E5.new 58 w1 N B F G A' n' c')
  have z1 := hk1.size
  have hg1 := hs1.lt.2
  clear hk1 hs1 ho hs0 E1 E0 B0
  obtain ⟨w2, hw2⟩ : ∃ w2 : World, w2 = w1.alloc (.cells #[.int .i64 N, .int .i64 B, .int .i64 F, .int .i64 G, .slice A' n' c'] 58) := ⟨_, rfl⟩
  have HW2 := Lib.hid hw2
  rw [← hw2] at HO E2 B2 S2
  rw [← hw2] at X2
  have z2 : w1.heap.size < w2.heap.size := by rw [hw2]; simp
  clear hw2
  go_upto_region 3 with (fail)
  rw [← HW2.out]
  go_cut [6, 7] (fun s6 s7 wc => ∃ (rows : List (List Int)) (A6 : Option Addr) (n6 c6 : Nat), s6 = .slice A6 n6 c6 ∧ s7 = .int .i64 (foE N B F G S rows) ∧ Hid ((foV N B F G S rows).length = n6) ∧ Hid (OI wc w2.heap.size wc.heap.size A6 (foV N B F G S rows)) ∧ Hid (Src wc W.heap.size g) ∧ Hid (Kept g (g + 1) w2 wc) ∧ Hid (∀ g ∈ rows, g.length ≤ 1000) ∧ rows.length ≤ 1000)
  case first =>
    have CE := Lib.hid (fun (w' : World) (h : Kept g (g + 1) w2 w') => (X2.out.kept h (.inr (by omega))).cells)
    have RS := Lib.hid (fun (w' : World) (h : Kept g (g + 1) w2 w') => (HO.out.kept h (.inl (by omega))).ri)
    obtain ⟨c0, c1, c2, c3, c4⟩ := X2.out.cells
    go_wp2_with fail
    go_region_held3 (fun w' => w'.cell? ⟨w1.heap.size, 0, none⟩ = some (.int .i64 N) ∧ w'.cell? ⟨w1.heap.size, 1, none⟩ = some (.int .i64 B) ∧ w'.cell? ⟨w1.heap.size, 2, none⟩ = some (.int .i64 F) ∧ w'.cell? ⟨w1.heap.size, 3, none⟩ = some (.int .i64 G) ∧ w'.cell? ⟨w1.heap.size, 4, none⟩ = some (.slice A' n' c'))
      ((first
        | exact CE.out _ (Kept.refl _ _ _).drew
        | exact CE.out _ K3.out
        | exact CE.out _ K4.out))
      ((first
        | (go_at_call 119; refine (spec_l31DrawOut_c _ W.heap.size g N B F G A' n' c' (S2.out.below (Below.refl w2.heap.size w2).drew)).mono ?_; rintro e w3 ⟨Ar, nr, cr, rows, rfl, hrl, hrn, hrz, hrm, hs3, hk3⟩; have K3 : Hid (Kept g (g + 1) w2 w3) := Lib.hid ((Kept.refl g (g + 1) w2).drew.trans hk3); have S3 := Lib.hid hs3; have RM3 := Lib.hid hrm.rm; have RZ3 := Lib.hid (show ∀ g ∈ rows, g.length ≤ 1048576 from fun g hg => Nat.le_trans (hrz.out g hg) (by omega)); have RZ1 := hrz; clear hs3 hk3 hrm hrz)
        | (go_at_call 46; refine (spec_FinishesOf_c N B F G A' n' c' S Ar nr cr rows _ hl.out (by omega) (RS.out _ K3.out) hrl.out (by omega) RZ3 RM3.out).mono ?_; rintro e w4 ⟨A6, n6, c6, rfl, hfl, hfm, hfo, hb4⟩; have K4 : Hid (Kept g (g + 1) w2 w4) := Lib.hid (K3.out.trans (Kept.of_below hb4 g (g + 1))); have S4 := Lib.hid (S3.out.below hb4); have O4 := Lib.hid (hfo.widen (lo' := w2.heap.size) (hi' := w4.heap.size) K3.out.size (Nat.le_refl _)); clear hfo hb4)))
    all_goals
      go_wp2_with fail
      go_meet
      exact ⟨rows, A6, n6, c6, rfl, rfl, hfl, O4, S4, K4, RZ1, by have := hrl.out; omega⟩
  case rest =>
    obtain ⟨rows, A6, n6, c6, rfl, rfl, hfl, hfo, hsc, hkc, hrz, hrl⟩ := hcut
    have EK := Lib.hid (E2.out.kept hkc.out (.inl (by omega)))
    have XK := Lib.hid (X2.out.kept hkc.out (.inr (by omega)))
    have SK := Lib.hid (HO.out.kept hkc.out (.inl (by omega)))
    have BK := Lib.hid (B2.out.trans (hkc.out.below (B := w.heap.size) (by omega) (by omega)))
    have hzc := hkc.out.size
    have hg2 : g < w2.heap.size := by omega
    have h0lo : w.heap.size < w0.heap.size := by omega
    clear E2 X2 HO B2 S2 B1 hkc
    obtain ⟨E, hE⟩ : ∃ E, foE N B F G S rows = E := ⟨_, rfl⟩
    obtain ⟨fs, hfs⟩ : ∃ fs, foV N B F G S rows = fs := ⟨_, rfl⟩
    have HEV := Lib.hid (fun h => foV_len (N := N) (B := B) (F := F) (G := G) (S := S) (rows := rows) (h : foE N B F G S rows = 0))
    have HBD := Lib.hid (fun h => foV_bd hrz.out hrl (N := N) (B := B) (F := F) (G := G) (S := S) (rows := rows) (h : foE N B F G S rows = 0))
    rw [hE, hfs] at HEV HBD
    rw [hfs] at hfl hfo
    rw [hE]
    clear hE hfs
    obtain ⟨c0, c1, c2, c3, c4⟩ := XK.out.cells
    obtain ⟨b0, b1, b2, b3, b4⟩ := EK.out.cells
    have f0 := EK.out.frz 0
    have f1 := EK.out.frz 1
    have f2 := EK.out.frz 2
    have f3 := EK.out.frz 3
    have f4 := EK.out.frz 4
    by_cases hE0 : E = 0
    · obtain ⟨-, v2, v3, -, -⟩ := HEV.out hE0
      have hbd := HBD.out hE0
      have hn6l := hfl.out
      subst hE0
      clear HEV HBD b0 b1 b2 b3 b4 c0 c1 c2 c3 c4 f0 f1 f2 f3 f4
      have h2 : 2 ≤ n6 := by omega
      have h60 : n6 ≤ 60 := by omega
      clear v2 v3 hn6l
      go_wp2_with fail
      refine (spec_l01Next_c _ _ g _ hsc.out (by omega)).mono ?_
      rintro e w5 ⟨r5, rfl, p5, q5, hs5, hk5⟩
      have E5' := Lib.hid (EK.out.kept hk5 (.inl (by omega)))
      have X5 := Lib.hid (XK.out.kept hk5 (.inr (by omega)))
      have S5 := Lib.hid (SK.out.kept hk5 (.inl (by omega)))
      have F5 := Lib.hid (hfo.out.kept hk5 (.inl (by omega)))
      have B5 := Lib.hid (BK.out.trans (hk5.below (B := w.heap.size) (by omega) (by omega)))
      have hz5 := hk5.size
      clear hk5 hs5 q5 EK XK SK hfo BK hsc
      obtain ⟨x, hx⟩ := get_some (zs := fs) (k := 0) (by have := hfl.out; omega)
      obtain ⟨x0, x1⟩ := hbd x (List.mem_of_getElem? hx)
      have HX := Lib.hid hx
      rcases F5.out with hh | ⟨bf, of, rfl, l1, l2, l3, hc, hf⟩
      · exfalso; have := hfl.out; rw [hh] at this; simp at this; omega
      have cx := hc 0 x hx
      have fx := hf of
      rw [Nat.add_zero] at cx
      have HF5 := Lib.hid F5.out
      have ne1 : ¬ bf = w1.heap.size := by omega
      have ne2 : ¬ bf = w.heap.size := by omega
      have ne3 : ¬ w1.heap.size = bf := by omega
      have ne4 : ¬ w.heap.size = bf := by omega
      have ne5 : ¬ w1.heap.size = w.heap.size := by omega
      have ne6 : ¬ w.heap.size = w1.heap.size := by omega
      have i1 : (1 : Int) ≤ (n6 : Int) := by omega
      obtain ⟨c0, c1, c2, c3, c4⟩ := X5.out.cells
      obtain ⟨b0, b1, b2, b3, b4⟩ := E5'.out.cells
      have f0 := E5'.out.frz 0
      have f1 := E5'.out.frz 1
      have f2 := E5'.out.frz 2
      have f3 := E5'.out.frz 3
      have f4 := E5'.out.frz 4
      clear hx hc hf hbd
      have hx0 : -1000000 ≤ x := x0
      by_cases t0 : r5 = 0
      · go_wp2_with fail
        refine bodyPost_ret (v := .tuple #[.agg #[.int .i64 N, .int .i64 B, .int .i64 F, .int .i64 G, .slice A' n' c'], .slice (some ⟨bf, of, none⟩) n6 c6]) (by simp [results, Try.results118, go_sem, b0, b1, b2, b3, b4]) rfl ?_
        have FX := OI.set HF5.out (j := 0) (by have := hfl.out; omega) (x + 1)
        rw [Nat.add_zero] at FX
        exact DF.mk (kept5 _ _ _ _ _ _ _) (B5.out.setCell (p := ⟨bf, of, none⟩) (by show w.heap.size ≤ bf; omega) _) (S5.out.kept (Kept.at_ bf of _ rfl) (.inr (by omega))) h0lo hl hn6 FX (by omega) (Lib.hid (by rw [List.length_set]; exact hfl.out)) h60
      by_cases t1 : r5 = 1
      · by_cases hc1 : c6 = 1
        · subst hc1
          go_wp2_with fail
          refine bodyPost_ret (v := .tuple #[.agg #[.int .i64 N, .int .i64 B, .int .i64 F, .int .i64 G, .slice A' n' c'], .slice (some ⟨bf, of, none⟩) (n6 - 1) 0]) (by simp [results, Try.results118, go_sem, b0, b1, b2, b3, b4]) rfl ?_
          exact DF.mk (kept5 _ _ _ _ _ _ _) B5.out S5.out h0lo hl hn6 (OI.cut HF5.out (n6 - 1)).1 (by omega) (Lib.hid (by rw [List.length_take, hfl.out]; omega)) (by omega)
        · go_wp2_with fail
          refine bodyPost_ret (v := .tuple #[.agg #[.int .i64 N, .int .i64 B, .int .i64 F, .int .i64 G, .slice A' n' c'], .slice (some ⟨bf, of + 1, none⟩) (n6 - 1) (c6 - 1)]) (by simp [results, Try.results118, go_sem, b0, b1, b2, b3, b4]) rfl ?_
          exact DF.mk (kept5 _ _ _ _ _ _ _) B5.out S5.out h0lo hl hn6 (OI.cut HF5.out 1).2 (by omega) (Lib.hid (by rw [List.length_drop, hfl.out])) (by omega)
      go_wp2_with fail
      refine bodyPost_ret (v := .tuple #[.agg #[.int .i64 N, .int .i64 B, .int .i64 F, .int .i64 G, .slice A' n' c'], .slice (some ⟨bf, of, none⟩) n6 c6]) (by simp [results, Try.results118, go_sem, b0, b1, b2, b3, b4]) rfl ?_
      exact DF.mk (kept5 _ _ _ _ _ _ _) B5.out S5.out h0lo hl hn6 HF5.out (by omega) hfl h60
    · have hB : (E == 0) = false := by simp [hE0]
      have hB2 : (E != 0) = true := by simp [hE0]
      clear HEV HBD c0 c1 c2 c3 c4 b0 b1 b2 b3 b4 f0 f1 f2 f3 f4
      obtain ⟨wd, hwd⟩ : ∃ wd : World, wd = wc := ⟨_, rfl⟩
      have EA := Lib.hid (EK.out.al (.cells #[.int .i64 0, .int .i64 1] 2))
      have BA := Lib.hid (BK.out.alloc (by omega) (.cells #[.int .i64 0, .int .i64 1] 2))
      have SA := Lib.hid (SK.out.below (below_box wc (.cells #[.int .i64 0, .int .i64 1] 2)))
      have FA := Lib.hid (OI.lit wc #[.int .i64 0, .int .i64 1] [0, 1] wc.heap.size (wc.heap.size + 1) rfl (Nat.le_refl _) (Nat.lt_succ_self _))
      obtain ⟨c0, c1, c2, c3, c4⟩ := XK.out.cells
      obtain ⟨b0, b1, b2, b3, b4⟩ := EA.out.cells
      have f0 := EA.out.frz 0
      have f1 := EA.out.frz 1
      have f2 := EA.out.frz 2
      have f3 := EA.out.frz 3
      have f4 := EA.out.frz 4
      clear hwd
      have ne7 : ¬ wc.heap.size = w.heap.size := by omega
      have ne8 : ¬ w.heap.size = wc.heap.size := by omega
      go_wp2_with fail
      refine bodyPost_ret (v := .tuple #[.agg #[.int .i64 N, .int .i64 B, .int .i64 F, .int .i64 G, .slice A' n' c'], .slice (some ⟨wc.heap.size, 0, none⟩) 2 2]) (by simp [results, Try.results118, go_sem, b0, b1, b2, b3, b4]) rfl ?_
      exact DF.mk (kept5 _ _ _ _ _ _ _) BA.out SA.out h0lo hl hn6 FA.out (by omega) (Lib.hid rfl) (by omega)
set_option maxHeartbeats 2000000 in
theorem spec_DrawPrizesWon_c (A : Option Addr) (n c : Nat) (bs : List Int) (w : World) (hn : bs.length = n) (hm : n ≤ 1048576) (hr : BR w A bs) :
    Calls Try.prog 67 #[.slice A n c] w (DF w) := by
  obtain ⟨W, hW⟩ : ∃ W, W = w.alloc (.cells #[.int .i64 0, .int .i64 0, .int .i64 0, .int .i64 0, .slice none 0 0] 58) := ⟨_, rfl⟩
  have E0 := Lib.hid (show E5 58 W w.heap.size 0 0 0 0 none 0 0 by rw [hW]; exact E5.new 58 w 0 0 0 0 none 0 0)
  have B0 := Lib.hid (show Below w.heap.size w W by rw [hW]; exact below_box _ _)
  have hsz : w.heap.size < W.heap.size := by rw [hW]; simp
  have hrW := Lib.hid (hr.below B0.out)
  have HW := Lib.hid hW
  clear hr
  go_enter Try.func67, Try.ntmps67
  go_wp2_with fail
  rw [← HW.out]
  refine (spec_DrawAreFinishes_c A n c bs _ hn hm hrW.out).mono ?_
  rintro e w1 ⟨N, B, F, G, A1, n1, c1, S, A2, n2, c2, fs, rfl, hl, hn1, ho1, hl2, hn2, ho2, hb1⟩
  have E1 := Lib.hid (E0.out.below hb1)
  have B1 := Lib.hid (below_step B0.out hb1 B0.out.size)
  have O1 := Lib.hid ho1
  have O2 := Lib.hid ho2
  clear ho1 ho2 hb1 hn hm hW hrW
  obtain ⟨b0, b1, b2, b3, b4⟩ := E1.out.cells
  have f0 := E1.out.frz 0
  have f1 := E1.out.frz 1
  have f2 := E1.out.frz 2
  have f3 := E1.out.frz 3
  have f4 := E1.out.frz 4
  go_wp2_with fail
  refine bodyPost_ret (v := .tuple #[.agg #[.int .i64 N, .int .i64 B, .int .i64 F, .int .i64 G, .slice A1 n1 c1], .slice A2 n2 c2]) (by simp [results, Try.results67, go_sem, b0, b1, b2, b3, b4]) rfl ?_
  exact DF.mk (kept5 _ _ _ _ _ _ _) B1.out O1.out hsz hl hn1 O2.out hsz hl2 hn2
set_option maxRecDepth 100000 in
set_option maxHeartbeats 8000000 in
theorem spec_DrawFinishesOf_c (A : Option Addr) (n c : Nat) (bs : List Int) (w : World) (hn : bs.length = n) (hm : n ≤ 1048576) (hr : BR w A bs) :
    Calls Try.prog 68 #[.slice A n c] w (DG w) := by
  obtain ⟨W, hW⟩ : ∃ W, W = w.alloc (.cells #[.int .i64 0, .int .i64 0, .int .i64 0, .int .i64 0, .slice none 0 0] 58) := ⟨_, rfl⟩
  have E0 := Lib.hid (show E5 58 W w.heap.size 0 0 0 0 none 0 0 by rw [hW]; exact E5.new 58 w 0 0 0 0 none 0 0)
  have B0 := Lib.hid (show Below w.heap.size w W by rw [hW]; exact below_box _ _)
  have hsz : w.heap.size < W.heap.size := by rw [hW]; simp
  have hrW := Lib.hid (hr.below B0.out)
  have HW := Lib.hid hW
  clear hr
  go_enter Try.func68, Try.ntmps68
  go_wp2_with fail
  rw [← HW.out]
  refine (spec_l01From_c A n c bs _ hn hm hrW.out).mono ?_
  rintro e w0 ⟨g, rfl, hs0, hb0⟩
  have hgg := hs0.lt.1
  have E1 := Lib.hid (E0.out.below hb0)
  have B1 := Lib.hid (below_step B0.out hb0 B0.out.size)
  have hz0 := hb0.size
  have hg0 := hs0.lt.2
  clear hn hm hb0 hW hrW
  go_wp2_with fail
  refine (spec_l31Draw_c _ _ g hs0).mono ?_
  rintro e w1 ⟨N, B, F, G, A', n', c', S, rfl, hl, hn6, ho, hs1, hk1⟩
  have HO := Lib.hid (ho.below (below_box w1 (.cells #[.int .i64 N, .int .i64 B, .int .i64 F, .int .i64 G, .slice A' n' c'] 58)))
  have E2 := Lib.hid ((E1.out.kept hk1 (.inl (by omega))).al (.cells #[.int .i64 N, .int .i64 B, .int .i64 F, .int .i64 G, .slice A' n' c'] 58))
  have B2 := Lib.hid ((B1.out.trans (hk1.below (B := w.heap.size) (by omega) (by omega))).alloc (by have := hk1.size; omega) (.cells #[.int .i64 N, .int .i64 B, .int .i64 F, .int .i64 G, .slice A' n' c'] 58))
  have S2 := Lib.hid (hs1.alloc (.cells #[.int .i64 N, .int .i64 B, .int .i64 F, .int .i64 G, .slice A' n' c'] 58))
  have X2 := Lib.hid (E5.new 58 w1 N B F G A' n' c')
  have z1 := hk1.size
  have hg1 := hs1.lt.2
  clear hk1 hs1 ho hs0 E1 E0 B0
  obtain ⟨w2, hw2⟩ : ∃ w2 : World, w2 = w1.alloc (.cells #[.int .i64 N, .int .i64 B, .int .i64 F, .int .i64 G, .slice A' n' c'] 58) := ⟨_, rfl⟩
  have HW2 := Lib.hid hw2
  rw [← hw2] at HO E2 B2 S2
  rw [← hw2] at X2
  have z2 : w1.heap.size < w2.heap.size := by rw [hw2]; simp
  clear hw2
  go_upto_region 3 with (fail)
  rw [← HW2.out]
  go_cut [3] (fun s3 wc => ∃ (rows : List (List Int)) (A6 : Option Addr) (n6 c6 : Nat), s3 = .slice A6 n6 c6 ∧ Hid (rows.length = n6) ∧ n6 ≤ 1000 ∧ Hid (∀ g ∈ rows, g.length ≤ 1000) ∧ Hid (RM wc A6 rows) ∧ Hid (E5 58 wc w.heap.size N B F G A' n' c') ∧ Hid (OI wc w0.heap.size w1.heap.size A' S) ∧ Hid (Below w.heap.size w wc))
  case first =>
    have CE := Lib.hid (fun (w' : World) (h : Kept g (g + 1) w2 w') => (X2.out.kept h (.inr (by omega))).cells)
    have h0lo : w.heap.size < w0.heap.size := by omega
    obtain ⟨c0, c1, c2, c3, c4⟩ := X2.out.cells
    go_wp2_with fail
    go_region_held3 (fun w' => w'.cell? ⟨w1.heap.size, 0, none⟩ = some (.int .i64 N) ∧ w'.cell? ⟨w1.heap.size, 1, none⟩ = some (.int .i64 B) ∧ w'.cell? ⟨w1.heap.size, 2, none⟩ = some (.int .i64 F) ∧ w'.cell? ⟨w1.heap.size, 3, none⟩ = some (.int .i64 G) ∧ w'.cell? ⟨w1.heap.size, 4, none⟩ = some (.slice A' n' c'))
      ((first
        | exact CE.out _ (Kept.refl _ _ _).drew
        | exact CE.out _ K3.out
        | exact ((X2.out.kept K3.out (.inr (by omega))).kept (kept5 _ _ _ _ _ _ _) (.inr (by omega))).cells))
      ((first
        | (go_at_call 119; refine (spec_l31DrawOut_c _ W.heap.size g N B F G A' n' c' (S2.out.below (Below.refl w2.heap.size w2).drew)).mono ?_; rintro e w3 ⟨Ar, nr, cr, rows, rfl, hrl, hrn, hrz, hrm, hs3, hk3⟩; have K3 : Hid (Kept g (g + 1) w2 w3) := Lib.hid ((Kept.refl g (g + 1) w2).drew.trans hk3); have RM3 := Lib.hid (hrm.kept (kept5 w3 w.heap.size (.int .i64 N) (.int .i64 B) (.int .i64 F) (.int .i64 G) (.slice A' n' c')) (by show w.heap.size + 1 ≤ w2.heap.size; omega)); have EK := Lib.hid (E2.out.kept K3.out (.inl (by omega))); obtain ⟨b0, b1, b2, b3, b4⟩ := EK.out.cells; have f0 := EK.out.frz 0; have f1 := EK.out.frz 1; have f2 := EK.out.frz 2; have f3 := EK.out.frz 3; have f4 := EK.out.frz 4; clear hs3 hk3 hrm)))
    all_goals
      have BK := Lib.hid ((B2.out.trans (K3.out.below (B := w.heap.size) (by omega) (by omega))).trans ((kept5 w3 w.heap.size (.int .i64 N) (.int .i64 B) (.int .i64 F) (.int .i64 G) (.slice A' n' c')).below (B := w.heap.size) (Nat.le_refl _) (by have := EK.out.lt; omega)))
      have SK := Lib.hid ((HO.out.kept K3.out (.inl (by omega))).kept (kept5 w3 w.heap.size (.int .i64 N) (.int .i64 B) (.int .i64 F) (.int .i64 G) (.slice A' n' c')) (.inl (by omega)))
      have XK := Lib.hid (EK.out.store5 (N := N) (B := B) (F := F) (G := G) (A := A') (n := n') (c := c'))
      clear b0 b1 b2 b3 b4 f0 f1 f2 f3 f4
      go_wp2_with fail
      go_meet
      exact ⟨rows, Ar, nr, cr, rfl, hrl, hrn, hrz, Lib.hid RM3.out.rm, XK, SK, BK⟩
  case rest =>
    obtain ⟨rows, A6, n6, c6, rfl, hrl, hrn, hrz, hrm, hx, ho, hbw⟩ := hcut
    obtain ⟨b0, b1, b2, b3, b4⟩ := hx.out.cells
    go_wp2_with fail
    refine bodyPost_ret (v := .tuple #[.agg #[.int .i64 N, .int .i64 B, .int .i64 F, .int .i64 G, .slice A' n' c'], .slice A6 n6 c6]) (by simp [results, Try.results68, go_sem, b0, b1, b2, b3, b4]) rfl ?_
    exact ⟨N, B, F, G, A', n', c', S, A6, n6, c6, rows, rfl, hl, hn6, ho.out.topC (by omega), hrl, hrn, hrz, hrm.out, hbw.out⟩
end Go.Proofs.Ythpgkngkmmameaa
