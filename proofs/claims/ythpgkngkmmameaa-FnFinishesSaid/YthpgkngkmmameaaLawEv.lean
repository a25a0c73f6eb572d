/-
  The contracts of the laws' own helpers on events: size, copy, compare, mark. Conditions: at most 1048576 shares; what is marked is owned.
-/
import Derived.Test.YthpgkngkmmameaaEvent
import Derived.Test.YthpgkngkmmameaaArg
namespace Go.Proofs.Ythpgkngkmmameaa
open Go.RowKit
set_option linter.unusedVariables false
/-- Block b holds an event. -/
def E5 (T : TypeId) (w : World) (b : Nat) (N B F G : Int) (A : Option Addr) (n c : Nat) : Prop := w.heap[b]? = some (.cells #[.int .i64 N, .int .i64 B, .int .i64 F, .int .i64 G, .slice A n c] T (0, 0))
section
variable {T : TypeId} {w w' : World} {b : Nat} {N B F G : Int} {A : Option Addr} {n c : Nat}
theorem E5.lt (h : E5 T w b N B F G A n c) : b < w.heap.size := (Array.getElem?_eq_some_iff.1 h).1
theorem E5.below (h : E5 T w b N B F G A n c) (hb : Below w.heap.size w w') : E5 T w' b N B F G A n c := (hb.block b h.lt).trans h
theorem E5.kept {lo hi : Nat} (h : E5 T w b N B F G A n c) (hk : Kept lo hi w w') (hd : b < lo ∨ hi ≤ b) : E5 T w' b N B F G A n c := (hk.block b h.lt (by omega)).trans h
theorem E5.new (T : TypeId) (w : World) (N B F G : Int) (A : Option Addr) (n c : Nat) : E5 T (w.alloc (.cells #[.int .i64 N, .int .i64 B, .int .i64 F, .int .i64 G, .slice A n c] T (0, 0))) w.heap.size N B F G A n c := heap_alloc_new w _
theorem E5.drewN (h : E5 T w b N B F G A n c) (q : Nat) : E5 T (w.drewN q) b N B F G A n c := h
theorem E5.frz (h : E5 T w b N B F G A n c) (j : Nat) : w.frozen? ⟨b, j, none⟩ = false := by unfold E5 at h; simp [World.frozen?, h]
theorem E5.cells (h : E5 T w b N B F G A n c) : w.cell? ⟨b, 0, none⟩ = some (.int .i64 N) ∧ w.cell? ⟨b, 1, none⟩ = some (.int .i64 B) ∧ w.cell? ⟨b, 2, none⟩ = some (.int .i64 F) ∧ w.cell? ⟨b, 3, none⟩ = some (.int .i64 G) ∧ w.cell? ⟨b, 4, none⟩ = some (.slice A n c) := by
  unfold E5 at h
  refine ⟨?_, ?_, ?_, ?_, ?_⟩ <;> simp [World.cell?, h]
end
theorem laws_szInt64S_c (A : Option Addr) (n c : Nat) (l : Int) (w : World) (hl0 : 0 ≤ l) (hl1 : l ≤ 1048576) (hm : n ≤ 9223372036854775807) :
    Calls Try.prog 108 #[.slice A n c, .int .i64 l] w fun e w' => e = .returned (.int .i64 (if l < n then -1 else l - n)) ∧ w = w' := by
  by_cases h : l < n
  · have HR := Lib.hid (show (if l < n then (-1 : Int) else l - n) = -1 by rw [if_pos h])
    go_enter Try.func108, Try.ntmps108
    go_wp2_with fail
    go_ret
    exact ⟨rfl, rfl⟩
  · have HR := Lib.hid (show (if l < n then (-1 : Int) else l - n) = l - n by rw [if_neg h])
    go_enter Try.func108, Try.ntmps108
    go_wp2_with fail
    go_ret
    exact ⟨rfl, rfl⟩
theorem laws_szEvent_c (N B F G : Int) (A : Option Addr) (n c : Nat) (l : Int) (w : World) (hl0 : 0 ≤ l) (hl1 : l ≤ 1048576) (hm : n ≤ 9223372036854775807) :
    Calls Try.prog 44 #[.agg #[.int .i64 N, .int .i64 B, .int .i64 F, .int .i64 G, .slice A n c], .int .i64 l] w fun e w' => e = .returned (.int .i64 (if l < n then -1 else l - n)) ∧ Below w.heap.size w w' := by
  by_cases h : l < n
  · have HR := Lib.hid (show (if l < n then (-1 : Int) else l - n) = -1 by rw [if_pos h])
    go_enter Try.func44, Try.ntmps44
    go_wp2_with fail
    refine (laws_szInt64S_c _ _ _ _ _ hl0 hl1 hm).mono ?_
    rintro e w' ⟨rfl, rfl⟩
    rw [HR.out]
    go_wp2_with fail
    go_ret
    exact ⟨rfl, below_box _ _⟩
  · have HR := Lib.hid (show (if l < n then (-1 : Int) else l - n) = l - n by rw [if_neg h])
    go_enter Try.func44, Try.ntmps44
    go_wp2_with fail
    refine (laws_szInt64S_c _ _ _ _ _ hl0 hl1 hm).mono ?_
    rintro e w' ⟨rfl, rfl⟩
    rw [HR.out]
    have hge : ¬ l - n < 0 := by omega
    go_wp2_with fail
    go_ret
    exact ⟨rfl, below_box _ _⟩
/-- An event is handed back; its shares are the call's own. -/
def ER (w : World) (N B F G : Int) (zs : List Int) (n : Nat) (e : Ending) (w' : World) : Prop := ∃ g, e = .returned (.agg #[.int .i64 N, .int .i64 B, .int .i64 F, .int .i64 G, .slice (some ⟨g, 0, none⟩) n n]) ∧ OI w' w.heap.size w'.heap.size (some ⟨g, 0, none⟩) zs ∧ Below w.heap.size w w'
theorem laws_toEvent_c (N B F G : Int) (A : Option Addr) (n c : Nat) (zs : List Int) (w : World) (hn : zs.length = n) (hm : n ≤ 1048576) (hr : RI w A zs) :
    Calls Try.prog 47 #[.agg #[.int .i64 N, .int .i64 B, .int .i64 F, .int .i64 G, .slice A n c]] w (ER w N B F G zs n) := by
  subst hn
  go_enter Try.func47, Try.ntmps47
  go_wp2_with fail
  refine (laws_toInt64S_c _ _ _ zs _ rfl hm (((hr.boxed _).boxed _).boxed _)).mono ?_
  rintro e w1 ⟨g, rfl, o1, b1⟩
  have hs1 := b1.size
  simp at hs1
  have T1 := ((E5.new 58 (w.alloc (.cells #[.int .i64 N, .int .i64 B, .int .i64 F, .int .i64 G, .slice A zs.length c] 53)) 0 0 0 0 none 0 0).below (below_box _ (.cells #[.int .i64 N, .int .i64 B, .int .i64 F, .int .i64 G, .slice none 0 0] 58))).below b1
  have T2 := (E5.new 58 ((w.alloc (.cells #[.int .i64 N, .int .i64 B, .int .i64 F, .int .i64 G, .slice A zs.length c] 53)).alloc (.cells #[.int .i64 0, .int .i64 0, .int .i64 0, .int .i64 0, .slice none 0 0] 58)) N B F G none 0 0).below b1
  have T1' := T1
  have T2' := T2
  simp only [show (w.alloc (.cells #[.int .i64 N, .int .i64 B, .int .i64 F, .int .i64 G, .slice A zs.length c] 53)).heap.size = w.heap.size + 1 by simp] at T1
  simp only [show ((w.alloc (.cells #[.int .i64 N, .int .i64 B, .int .i64 F, .int .i64 G, .slice A zs.length c] 53)).alloc (.cells #[.int .i64 0, .int .i64 0, .int .i64 0, .int .i64 0, .slice none 0 0] 58)).heap.size = w.heap.size + 1 + 1 by simp] at T2
  clear T1' T2'
  obtain ⟨p0, p1, p2, p3, p4⟩ := T1.cells
  obtain ⟨q0, q1, q2, q3, q4⟩ := T2.cells
  have f0 := T1.frz 0
  have f1 := T1.frz 1
  have f2 := T1.frz 2
  have f3 := T1.frz 3
  have f4 := T1.frz 4
  have f5 := T2.frz 4
  have K1 := Lib.hid T1
  have K2 := Lib.hid T2
  clear T1 T2
  go_wp2_with fail
  refine bodyPost_ret (v := .agg #[.int .i64 N, .int .i64 B, .int .i64 F, .int .i64 G, .slice (some ⟨g, 0, none⟩) zs.length zs.length]) (by simp [results, Try.results47, go_sem, p0, p1, p2, p3, p4]) rfl ?_
  have KK := ((((((Kept.refl (w.heap.size + 1) (w.heap.size + 1 + 2) w1).setCell (p := ⟨w.heap.size + 1 + 1, 4, none⟩) (.inl (by simp)) (.slice (some ⟨g, 0, none⟩) zs.length zs.length)).setCell (p := ⟨w.heap.size + 1, 0, none⟩) (.inl (by simp)) (.int .i64 N)).setCell (p := ⟨w.heap.size + 1, 1, none⟩) (.inl (by simp)) (.int .i64 B)).setCell (p := ⟨w.heap.size + 1, 2, none⟩) (.inl (by simp)) (.int .i64 F)).setCell (p := ⟨w.heap.size + 1, 3, none⟩) (.inl (by simp)) (.int .i64 G)).setCell (p := ⟨w.heap.size + 1, 4, none⟩) (.inl (by simp)) (.slice (some ⟨g, 0, none⟩) zs.length zs.length)
  have o2 := o1.kept KK (.inl (by simp))
  refine ⟨g, rfl, o2.widen (by simp; omega) KK.size, ?_⟩
  exact (below_step (below_step (below_step (below_box w _) (below_box _ _) (by simp)) (below_box _ _) (by simp; omega)) b1 (by simp; omega)).trans (KK.below (by omega) (by omega))
theorem laws_eqEvent_c (N B F G : Int) (A A' : Option Addr) (n n' c c' : Nat) (zs : List Int) (w : World) (hn : zs.length = n) (hn' : zs.length = n') (hm : n ≤ 1048576) (hr : RI w A zs) (hr' : RI w A' zs) :
    Calls Try.prog 50 #[.agg #[.int .i64 N, .int .i64 B, .int .i64 F, .int .i64 G, .slice A n c], .agg #[.int .i64 N, .int .i64 B, .int .i64 F, .int .i64 G, .slice A' n' c']] w fun e w' => e = .returned (.bool true) ∧ Below w.heap.size w w' := by
  subst hn
  subst hn'
  go_enter Try.func50, Try.ntmps50
  go_wp2_with fail
  refine (laws_eqInt64S_c _ _ _ _ _ _ zs _ rfl rfl hm ((hr.boxed _).boxed _) ((hr'.boxed _).boxed _)).mono ?_
  rintro e w1 ⟨rfl, b1⟩
  go_wp2_with fail
  go_ret
  exact ⟨rfl, ((below_box w _).trans ((below_box _ _).mono (by simp))).trans (b1.mono (by simp; omega))⟩
theorem laws_markEvent_c (N B F G : Int) (A : Option Addr) (n c : Nat) (zs : List Int) (s : Int) (lo hi : Nat) (w : World) (hn : zs.length = n) (hm : n ≤ 1048576) (hs0 : 0 ≤ s) (hs1 : s ≤ 1000000000) (ho : OI w lo hi A zs) :
    Calls Try.prog 52 #[.agg #[.int .i64 N, .int .i64 B, .int .i64 F, .int .i64 G, .slice A n c], .int .i64 s] w fun e w' => e = .returned (.int .i64 (s + n)) ∧ OI w' lo hi A (marks s n) ∧ Kept lo hi w w' := by
  subst hn
  have hk := (Kept.refl lo hi w).alloc (.cells #[.int .i64 N, .int .i64 B, .int .i64 F, .int .i64 G, .slice A zs.length c] 58)
  go_enter Try.func52, Try.ntmps52
  go_wp2_with fail
  refine (laws_markInt64S_c _ _ _ zs _ lo hi _ rfl hm hs0 hs1 (ho.below (below_box _ _))).mono ?_
  rintro e w1 ⟨rfl, o1, k1⟩
  go_wp2_with fail
  go_ret
  exact ⟨rfl, o1, hk.trans k1⟩
end Go.Proofs.Ythpgkngkmmameaa
