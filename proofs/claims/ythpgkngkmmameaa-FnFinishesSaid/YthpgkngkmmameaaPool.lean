/-
  The contracts of prizePool, l31Pool, PrizePool, HouseTake. Conditions: at most 1048576 shares.
-/
import Derived.Test.YthpgkngkmmameaaLawEv
import Derived.Deep.RegionHeld3
namespace Go.Proofs.Ythpgkngkmmameaa
open Go.RowKit
set_option linter.unusedVariables false
def poolI (N B G : Int) : Int := if N * B < G then G else N * B
theorem pool_bd {N B F G : Int} {S : List Int} (h : evB N B F G S = true) : 0 ≤ N * B ∧ N * B ≤ 60000 ∧ 0 ≤ poolI N B G ∧ poolI N B G ≤ 1000000 ∧ N * B ≤ poolI N B G ∧ G ≤ poolI N B G := by
  obtain ⟨⟨a0, a1⟩, ⟨b0, b1⟩, -, ⟨d0, d1⟩, -⟩ := evB_iff.1 h
  have h0 := Int.mul_nonneg (show 0 ≤ N by omega) b0
  have h1 := Int.mul_le_mul a1 b1 b0 (by omega)
  unfold poolI
  split <;> omega
theorem impl_prizePool_c (N B F G : Int) (A : Option Addr) (n c : Nat) (w : World) (h0 : 0 ≤ N * B) (h1 : N * B ≤ 60000) (h2 : 0 ≤ G) (h3 : G ≤ 1000000) :
    Calls Try.prog 115 #[.agg #[.int .i64 N, .int .i64 B, .int .i64 F, .int .i64 G, .slice A n c]] w fun e w' => e = .returned (.tuple #[.int .i64 (poolI N B G), .int .i64 (poolI N B G - N * B)]) ∧ Below w.heap.size w w' := by
  have e1 : IntKind.i64.wrap (N * B) = N * B := by rw [IntKind.wrap_i64]; omega
  by_cases hlt : N * B < G
  · have HP := Lib.hid (show poolI N B G = G by unfold poolI; rw [if_pos hlt])
    go_enter Try.func115, Try.ntmps115
    go_wp2_with fail
    go_ret2
    exact ⟨ret_int2 HP.out.symm (by rw [HP.out]; try omega), below_box _ _⟩
  · have HP := Lib.hid (show poolI N B G = N * B by unfold poolI; rw [if_neg hlt])
    go_enter Try.func115, Try.ntmps115
    go_wp2_with fail
    go_ret2
    exact ⟨ret_int2 HP.out.symm (by rw [HP.out]; try omega), below_box _ _⟩
theorem spec_l31Pool_c (N B F G : Int) (A : Option Addr) (n c : Nat) (w : World) (h0 : 0 ≤ N * B) (h1 : N * B ≤ 60000) (h2 : 0 ≤ G) (h3 : G ≤ 1000000) :
    Calls Try.prog 116 #[.agg #[.int .i64 N, .int .i64 B, .int .i64 F, .int .i64 G, .slice A n c]] w fun e w' => e = .returned (.int .i64 (poolI N B G)) ∧ Below w.heap.size w w' := by
  have e1 : IntKind.i64.wrap (N * B) = N * B := by rw [IntKind.wrap_i64]; omega
  by_cases hlt : N * B < G
  · have HP := Lib.hid (show poolI N B G = G by unfold poolI; rw [if_pos hlt])
    go_enter Try.func116, Try.ntmps116
    go_wp2_with fail
    go_ret
    exact ⟨ret_int HP.out.symm, below_box _ _⟩
  · have HP := Lib.hid (show poolI N B G = N * B by unfold poolI; rw [if_neg hlt])
    go_enter Try.func116, Try.ntmps116
    go_wp2_with fail
    go_ret
    exact ⟨ret_int HP.out.symm, below_box _ _⟩
def ppA (N B F G : Int) (S : List Int) : Int := if evB N B F G S = true then poolI N B G else 0
def ppB (N B F G : Int) (S : List Int) : Int := if evB N B F G S = true then poolI N B G - N * B else 0
def ppE (N B F G : Int) (S : List Int) : Int := if evB N B F G S = true then 0 else 1
def htA (N B F G : Int) (S : List Int) : Int := if evB N B F G S = true then N * F - (poolI N B G - N * B) else 0
theorem ret_int3 {k l m : IntKind} {a b c d e f : Int} (h : a = b) (h' : c = d) (h'' : e = f) : Ending.returned (.tuple #[.int k a, .int l c, .int m e]) = .returned (.tuple #[.int k b, .int l d, .int m f]) := by rw [h, h', h'']
theorem impl_PrizePool_c (N B F G : Int) (A : Option Addr) (n c : Nat) (S : List Int) (w : World) (hn : S.length = n) (hm : n ≤ 1048576) (hr : RI w A S) :
    Calls Try.prog 59 #[.agg #[.int .i64 N, .int .i64 B, .int .i64 F, .int .i64 G, .slice A n c]] w fun e w' => e = .returned (.tuple #[.int .i64 (ppA N B F G S), .int .i64 (ppB N B F G S), .int .i64 (ppE N B F G S)]) ∧ Below w.heap.size w w' := by
  subst hn
  have X0 := E5.new 58 w N B F G A S.length c
  cases h : evB N B F G S
  · have HA := Lib.hid (show ppA N B F G S = 0 by simp [ppA, h])
    have HB := Lib.hid (show ppB N B F G S = 0 by simp [ppB, h])
    have HE := Lib.hid (show ppE N B F G S = 1 by simp [ppE, h])
    go_enter Try.func59, Try.ntmps59
    go_wp2_with fail
    refine (impl_IsEvent_c _ _ _ _ _ _ _ S _ rfl hm (hr.boxed _)).mono ?_
    rintro e w1 ⟨rfl, b1⟩
    rw [h]
    go_wp2_with fail
    go_ret3
    exact ⟨ret_int3 HA.out.symm HB.out.symm HE.out.symm, (below_box _ _).trans (b1.mono (by simp))⟩
  · have HA := Lib.hid (show ppA N B F G S = poolI N B G by simp [ppA, h])
    have HB := Lib.hid (show ppB N B F G S = poolI N B G - N * B by simp [ppB, h])
    have HE := Lib.hid (show ppE N B F G S = 0 by simp [ppE, h])
    obtain ⟨p0, p1, -⟩ := pool_bd h
    obtain ⟨-, -, -, ⟨d0, d1⟩, -⟩ := evB_iff.1 h
    go_enter Try.func59, Try.ntmps59
    go_wp2_with fail
    refine (impl_IsEvent_c _ _ _ _ _ _ _ S _ rfl hm (hr.boxed _)).mono ?_
    rintro e w1 ⟨rfl, b1⟩
    rw [h]
    have X1 := X0.below b1
    obtain ⟨c0, c1, c2, c3, c4⟩ := X1.cells
    clear X1 X0 h
    go_wp2_with fail
    refine (impl_prizePool_c N B F G _ _ _ _ p0 p1 d0 d1).mono ?_
    rintro e w2 ⟨rfl, b2⟩
    go_wp2_with fail
    go_ret3
    exact ⟨ret_int3 HA.out.symm HB.out.symm HE.out.symm, below_step ((below_box _ _).trans (b1.mono (by simp))) b2 (by have := b1.size; simp at this; omega)⟩
/-- What a region that draws may lean on while calls make memory: the event's block. -/
def EvK (T : TypeId) (w : World) (b : Nat) (N B F G : Int) (A : Option Addr) (n c : Nat) (w' : World) : Prop := E5 T w' b N B F G A n c ∧ Below w.heap.size w w'
def EvS (T : TypeId) (w : World) (b : Nat) (N B F G : Int) (A : Option Addr) (n c : Nat) (w' : World) : Prop :=
  w'.cell? ⟨b, 0, none⟩ = some (.int .i64 N) ∧ w'.cell? ⟨b, 1, none⟩ = some (.int .i64 B) ∧ w'.cell? ⟨b, 2, none⟩ = some (.int .i64 F) ∧ w'.cell? ⟨b, 3, none⟩ = some (.int .i64 G) ∧ w'.cell? ⟨b, 4, none⟩ = some (.slice A n c) ∧ EvK T w b N B F G A n c w'
theorem EvK.s {T : TypeId} {w : World} {b : Nat} {N B F G : Int} {A : Option Addr} {n c : Nat} {w' : World} (h : EvK T w b N B F G A n c w') : EvS T w b N B F G A n c w' := by
  obtain ⟨c0, c1, c2, c3, c4⟩ := h.1.cells
  exact ⟨c0, c1, c2, c3, c4, h⟩
theorem EvS.k {T : TypeId} {w : World} {b : Nat} {N B F G : Int} {A : Option Addr} {n c : Nat} {w' : World} (h : EvS T w b N B F G A n c w') : EvK T w b N B F G A n c w' := h.2.2.2.2.2
theorem EvK.step {T : TypeId} {w : World} {b : Nat} {N B F G : Int} {A : Option Addr} {n c : Nat} {w' w2 : World} (h : EvK T w b N B F G A n c w') (hb : Below w'.heap.size w' w2) : EvK T w b N B F G A n c w2 := ⟨h.1.below hb, below_step h.2 hb h.2.size⟩
theorem EvK.drew {T : TypeId} {w : World} {b : Nat} {N B F G : Int} {A : Option Addr} {n c : Nat} {w' : World} (h : EvK T w b N B F G A n c w') : EvK T w b N B F G A n c w'.drew := ⟨h.1, h.2.drew⟩
theorem ev_fee {N B F G : Int} {S : List Int} (h : evB N B F G S = true) : 0 ≤ N * F ∧ N * F ≤ 60000 := by
  obtain ⟨⟨a0, a1⟩, -, ⟨c0, c1⟩, -⟩ := evB_iff.1 h
  have h0 := Int.mul_nonneg (show 0 ≤ N by omega) c0
  have h1 := Int.mul_le_mul a1 c1 c0 (by omega)
  omega
theorem impl_HouseTake_c (N B F G : Int) (A : Option Addr) (n c : Nat) (S : List Int) (w : World) (hn : S.length = n) (hm : n ≤ 1048576) (hr : RI w A S) :
    Calls Try.prog 61 #[.agg #[.int .i64 N, .int .i64 B, .int .i64 F, .int .i64 G, .slice A n c]] w fun e w' => e = .returned (.tuple #[.int .i64 (htA N B F G S), .int .i64 (ppE N B F G S)]) ∧ Below w.heap.size w w' := by
  subst hn
  have X0 := E5.new 58 w N B F G A S.length c
  cases h : evB N B F G S
  · have HA := Lib.hid (show htA N B F G S = 0 by simp [htA, h])
    have HE := Lib.hid (show ppE N B F G S = 1 by simp [ppE, h])
    go_enter Try.func61, Try.ntmps61
    go_wp2_with fail
    refine (impl_IsEvent_c _ _ _ _ _ _ _ S _ rfl hm (hr.boxed _)).mono ?_
    rintro e w1 ⟨rfl, b1⟩
    rw [h]
    go_wp2_with fail
    go_ret2
    exact ⟨ret_int2 HA.out.symm HE.out.symm, (below_box _ _).trans (b1.mono (by simp))⟩
  · have HA := Lib.hid (show htA N B F G S = N * F - (poolI N B G - N * B) by simp [htA, h])
    have HE := Lib.hid (show ppE N B F G S = 0 by simp [ppE, h])
    obtain ⟨p0, p1, p2, p3, p4, p5⟩ := pool_bd h
    obtain ⟨f0, f1⟩ := ev_fee h
    obtain ⟨-, -, -, ⟨d0, d1⟩, -⟩ := evB_iff.1 h
    have e1 : IntKind.i64.wrap (N * F) = N * F := by rw [IntKind.wrap_i64]; omega
    have e2 : IntKind.i64.wrap (N * F - (poolI N B G - N * B)) = N * F - (poolI N B G - N * B) := by rw [IntKind.wrap_i64]; omega
    go_enter Try.func61, Try.ntmps61
    go_wp2_with fail
    refine (impl_IsEvent_c _ _ _ _ _ _ _ S _ rfl hm (hr.boxed _)).mono ?_
    rintro e w1 ⟨rfl, b1⟩
    rw [h]
    have X1 := Lib.hid (X0.below b1)
    obtain ⟨c0, c1, c2, c3, c4⟩ := X1.out.cells
    clear X0 h
    go_wp2_with fail
    refine (impl_prizePool_c N B F G _ _ _ _ p0 p1 d0 d1).mono ?_
    rintro e w2 ⟨rfl, b2⟩
    clear c0 c1 c2 c3 c4
    obtain ⟨c0, c1, c2, c3, c4⟩ := (X1.out.below b2).cells
    go_wp2_with fail
    go_ret2
    exact ⟨ret_int2 HA.out.symm HE.out.symm, below_step ((below_box _ _).trans (b1.mono (by simp))) b2 (by have := b1.size; simp at this; omega)⟩
theorem spec_PrizePool_c (N B F G : Int) (A : Option Addr) (n c : Nat) (S : List Int) (w : World) (hn : S.length = n) (hm : n ≤ 1048576) (hr : RI w A S) :
    Calls Try.prog 60 #[.agg #[.int .i64 N, .int .i64 B, .int .i64 F, .int .i64 G, .slice A n c]] w fun e w' => e = .returned (.tuple #[.int .i64 (ppA N B F G S), .int .i64 (ppB N B F G S), .int .i64 (ppE N B F G S)]) ∧ Below w.heap.size w w' := by
  subst hn
  have X0 := E5.new 58 w N B F G A S.length c
  cases h : evB N B F G S
  · have HA := Lib.hid (show ppA N B F G S = 0 by simp [ppA, h])
    have HB := Lib.hid (show ppB N B F G S = 0 by simp [ppB, h])
    have HE := Lib.hid (show ppE N B F G S = 1 by simp [ppE, h])
    go_enter Try.func60, Try.ntmps60
    go_wp2_with fail
    refine (spec_IsEvent_c _ _ _ _ _ _ _ S _ rfl hm (hr.boxed _)).mono ?_
    rintro e w1 ⟨rfl, b1⟩
    rw [h]
    go_wp2_with fail
    go_ret3
    exact ⟨ret_int3 HA.out.symm HB.out.symm HE.out.symm, (below_box _ _).trans (b1.mono (by simp))⟩
  · have HA := Lib.hid (show ppA N B F G S = poolI N B G by simp [ppA, h])
    have HB := Lib.hid (show ppB N B F G S = poolI N B G - N * B by simp [ppB, h])
    have HE := Lib.hid (show ppE N B F G S = 0 by simp [ppE, h])
    obtain ⟨p0, p1, p2, p3, p4, p5⟩ := pool_bd h
    obtain ⟨-, -, -, ⟨d0, d1⟩, -⟩ := evB_iff.1 h
    have e1 : IntKind.i64.wrap (N * B) = N * B := by rw [IntKind.wrap_i64]; omega
    go_enter Try.func60, Try.ntmps60
    go_wp2_with fail
    refine (spec_IsEvent_c _ _ _ _ _ _ _ S _ rfl hm (hr.boxed _)).mono ?_
    rintro e w1 ⟨rfl, b1⟩
    rw [h]
    have X1 := Lib.hid (X0.below b1)
    obtain ⟨c0, c1, c2, c3, c4⟩ := X1.out.cells
    clear X0 h
    have K0 : EvK 58 w w.heap.size N B F G A S.length c w1.drew := ⟨X1.out, ((below_box _ _).trans (b1.mono (by simp))).drew⟩
    go_wp2_with fail
    go_region_held3 (fun w' => w'.cell? ⟨w.heap.size, 0, none⟩ = some (.int .i64 N) ∧ w'.cell? ⟨w.heap.size, 1, none⟩ = some (.int .i64 B) ∧ w'.cell? ⟨w.heap.size, 2, none⟩ = some (.int .i64 F) ∧ w'.cell? ⟨w.heap.size, 3, none⟩ = some (.int .i64 G) ∧ w'.cell? ⟨w.heap.size, 4, none⟩ = some (.slice A S.length c) ∧ EvK 58 w w.heap.size N B F G A S.length c w')
      ((first | exact K0.s | exact (EvK.step (EvS.k (by assumption)) b2).s))
      ((first | (go_at_call 116; refine (spec_l31Pool_c N B F G _ _ _ _ p0 p1 d0 d1).mono ?_; rintro e w2 ⟨rfl, b2⟩)))
    all_goals
      have KE : EvK 58 w w.heap.size N B F G A S.length c w2 := EvS.k (by assumption)
      go_wp2_with fail
      go_ret3
      exact ⟨ret_int3 HA.out.symm (by rw [show IntKind.i64.wrap (poolI N B G - N * B) = poolI N B G - N * B by rw [IntKind.wrap_i64]; omega]; exact HB.out.symm) HE.out.symm, KE.2⟩
theorem spec_HouseTake_c (N B F G : Int) (A : Option Addr) (n c : Nat) (S : List Int) (w : World) (hn : S.length = n) (hm : n ≤ 1048576) (hr : RI w A S) :
    Calls Try.prog 62 #[.agg #[.int .i64 N, .int .i64 B, .int .i64 F, .int .i64 G, .slice A n c]] w fun e w' => e = .returned (.tuple #[.int .i64 (htA N B F G S), .int .i64 (ppE N B F G S)]) ∧ Below w.heap.size w w' := by
  subst hn
  have X0 := E5.new 58 w N B F G A S.length c
  cases h : evB N B F G S
  · have HA := Lib.hid (show htA N B F G S = 0 by simp [htA, h])
    have HE := Lib.hid (show ppE N B F G S = 1 by simp [ppE, h])
    go_enter Try.func62, Try.ntmps62
    go_wp2_with fail
    refine (spec_IsEvent_c _ _ _ _ _ _ _ S _ rfl hm (hr.boxed _)).mono ?_
    rintro e w1 ⟨rfl, b1⟩
    rw [h]
    go_wp2_with fail
    go_ret2
    exact ⟨ret_int2 HA.out.symm HE.out.symm, (below_box _ _).trans (b1.mono (by simp))⟩
  · have HA := Lib.hid (show htA N B F G S = N * F - (poolI N B G - N * B) by simp [htA, h])
    have HE := Lib.hid (show ppE N B F G S = 0 by simp [ppE, h])
    obtain ⟨p0, p1, p2, p3, p4, p5⟩ := pool_bd h
    obtain ⟨f0, f1⟩ := ev_fee h
    obtain ⟨-, -, -, ⟨d0, d1⟩, -⟩ := evB_iff.1 h
    have e1 : IntKind.i64.wrap (N * F) = N * F := by rw [IntKind.wrap_i64]; omega
    have e3 : IntKind.i64.wrap (N * B) = N * B := by rw [IntKind.wrap_i64]; omega
    have e2 : IntKind.i64.wrap (N * F - (poolI N B G - N * B)) = N * F - (poolI N B G - N * B) := by rw [IntKind.wrap_i64]; omega
    go_enter Try.func62, Try.ntmps62
    go_wp2_with fail
    refine (spec_IsEvent_c _ _ _ _ _ _ _ S _ rfl hm (hr.boxed _)).mono ?_
    rintro e w1 ⟨rfl, b1⟩
    rw [h]
    have X1 := Lib.hid (X0.below b1)
    obtain ⟨c0, c1, c2, c3, c4⟩ := X1.out.cells
    clear X0 h
    have K0 : EvK 58 w w.heap.size N B F G A S.length c w1.drew := ⟨X1.out, ((below_box _ _).trans (b1.mono (by simp))).drew⟩
    go_wp2_with fail
    go_region_held3 (fun w' => w'.cell? ⟨w.heap.size, 0, none⟩ = some (.int .i64 N) ∧ w'.cell? ⟨w.heap.size, 1, none⟩ = some (.int .i64 B) ∧ w'.cell? ⟨w.heap.size, 2, none⟩ = some (.int .i64 F) ∧ w'.cell? ⟨w.heap.size, 3, none⟩ = some (.int .i64 G) ∧ w'.cell? ⟨w.heap.size, 4, none⟩ = some (.slice A S.length c) ∧ EvK 58 w w.heap.size N B F G A S.length c w')
      ((first | exact K0.s | exact (EvK.step (EvS.k (by assumption)) b2).s))
      ((first | (go_at_call 116; refine (spec_l31Pool_c N B F G _ _ _ _ p0 p1 d0 d1).mono ?_; rintro e w2 ⟨rfl, b2⟩)))
    all_goals
      have KE : EvK 58 w w.heap.size N B F G A S.length c w2 := EvS.k (by assumption)
      go_wp2_with fail
      go_ret2
      exact ⟨ret_int2 (by rw [show IntKind.i64.wrap (poolI N B G - N * B) = poolI N B G - N * B by rw [IntKind.wrap_i64]; omega, e2]; exact HA.out.symm) HE.out.symm, KE.2⟩
end Go.Proofs.Ythpgkngkmmameaa
