/-
  The reference's decimal numeral: spec.l01Dec. Conditions: a number from 0 to 8999999999999999999.
-/
import Derived.Test.YtieniogfnhhlbaaDoorGlob
import Derived.Test.YtieniogfnhhlbaaDoorText
import Derived.Deep.RegionWith
import Derived.Laws.BytesArg
import Derived.Lib.ItoaLen
namespace Go.Proofs.YtieniogfnhhlbaaDoor
open Go.RowKit
set_option linter.unusedVariables false
theorem conv_one (w : World) (x : Int) : (convert 38 9 (.slice (some ⟨w.heap.size, 0, none⟩) 1 1)).run Tryd.prog (w.alloc (.cells #[.int .u8 x] 5)) = .ok (.string ⟨#[UInt8.ofNat x.toNat]⟩) (w.alloc (.cells #[.int .u8 x] 5)) := by
  have := run_convert_bytes_arg (P := Tryd.prog) (w.alloc (.cells #[.int .u8 x] 5)) 38 5 Tryd.underlying38 Tryd.underlying5 w.heap.size 0 1 1 [x] rfl (by
    intro i hi
    obtain rfl : i = 0 := by omega
    unfold World.cell?
    rw [heap_alloc_new]; rfl) 9 Tryd.underlying9
  rw [this]
  rfl
theorem conv_at {W w1 : World} {x : Int} (hb : Below (W.alloc (.cells #[.int .u8 x] 5)).heap.size (W.alloc (.cells #[.int .u8 x] 5)) w1) :
    (convert 38 9 (.slice (some ⟨W.heap.size, 0, none⟩) 1 1)).run Tryd.prog w1 = .ok (.string ⟨#[UInt8.ofNat x.toNat]⟩) w1 := by
  have := run_convert_bytes_arg (P := Tryd.prog) w1 38 5 Tryd.underlying38 Tryd.underlying5 W.heap.size 0 1 1 [x] rfl (by
    intro i hi
    obtain rfl : i = 0 := by omega
    rw [hb.cell (p := ⟨W.heap.size, 0 + 0, none⟩) (by simp)]
    unfold World.cell?
    rw [heap_alloc_new]; rfl) 9 Tryd.underlying9
  rw [this]
  rfl
theorem conv_at' {W w1 : World} {x : Int} (hb : Below (W.alloc (.cells #[.int .u8 x] 5)).drew.heap.size (W.alloc (.cells #[.int .u8 x] 5)).drew w1) :
    (convert 38 9 (.slice (some ⟨W.heap.size, 0, none⟩) 1 1)).run Tryd.prog w1 = .ok (.string ⟨#[UInt8.ofNat x.toNat]⟩) w1 :=
  conv_at (W := W) (x := x) ⟨hb.os, hb.tape, hb.output, hb.size, hb.block⟩
theorem conv_one_drew (w : World) (x : Int) : (convert 38 9 (.slice (some ⟨w.heap.size, 0, none⟩) 1 1)).run Tryd.prog (w.alloc (.cells #[.int .u8 x] 5)).drew = .ok (.string ⟨#[UInt8.ofNat x.toNat]⟩) (w.alloc (.cells #[.int .u8 x] 5)).drew :=
  conv_at' (W := w) (x := x) (Below.refl _ _)
theorem end1 {w w1 : World} (h : Below w.drew.heap.size w.drew w1) (o : Obj) : Below w.heap.size w (w1.alloc o) := (show Below w.heap.size w w1 from ⟨h.os, h.tape, h.output, h.size, h.block⟩).alloc h.size o
theorem end2 {w w1 : World} {o : Obj} (h : Below (w.alloc o).drew.heap.size (w.alloc o).drew w1) : Below w.heap.size w w1 :=
  ((Below.refl _ _).alloc (Nat.le_refl _) o).trans ((show Below (w.alloc o).heap.size (w.alloc o) w1 from ⟨h.os, h.tape, h.output, h.size, h.block⟩).mono (by simp))
theorem txt_append (a b : List UInt8) : Value.string (⟨a.toArray⟩ ++ ⟨b.toArray⟩ : ByteArray) = txt (a ++ b) := by
  unfold txt
  congr 1
set_option maxHeartbeats 1000000 in
theorem spec_l01Dec_c : ∀ (k n : Nat) (w : World), n ≤ k → n < 9000000000000000000 → Calls Tryd.prog 15 #[.int .i64 n] w fun e w' => e = .returned (txt (Lib.decDigits n)) ∧ Below w.heap.size w w' := by
  intro k
  induction k with
  | zero =>
    intro n w hk hb
    obtain rfl : n = 0 := by omega
    have kc := conv_one
    go_enter Tryd.func15, Tryd.ntmps15
    go_wp2_with fail
    go_ret
    exact ⟨by rw [Lib.decDigits, dif_pos (by decide)]; rfl, (Below.refl _ _).alloc (Nat.le_refl _) _⟩
  | succ k ih =>
    intro n w hk hb
    have kc := conv_one
    have kd := conv_one_drew
    by_cases h10 : n < 10
    · have h10' : (n : Int) < 10 := by omega
      have HD := Lib.hid (show Lib.decDigits n = [UInt8.ofNat (48 + n)] by rw [Lib.decDigits, dif_pos h10])
      go_enter Tryd.func15, Tryd.ntmps15
      go_wp2_with fail
      go_ret
      exact ⟨by rw [HD.out]; rfl, (Below.refl _ _).alloc (Nat.le_refl _) _⟩
    · have h10' : ¬ (n : Int) < 10 := by omega
      have hq : ((n / 10 : Nat) : Int) = (n : Int) / 10 := by omega
      have hr : ((n % 10 : Nat) : Int) = (n : Int) % 10 := by omega
      have ih' : ∀ w, Calls Tryd.prog 15 #[.int .i64 ((n : Int) / 10)] w fun e w' => e = .returned (txt (Lib.decDigits (n / 10))) ∧ Below w.heap.size w w' := fun w => by
        rw [← hq]; exact ih (n / 10) w (by omega) (by omega)
      have HD := Lib.hid (show Lib.decDigits n = Lib.decDigits (n / 10) ++ [UInt8.ofNat (48 + n % 10)] by rw [Lib.decDigits, dif_neg h10])
      have HR := Lib.hid (show (48 + (n : Int) % 10).toNat = 48 + n % 10 by omega)
      have m0 : 0 ≤ (n : Int) % 10 := by omega
      have m1 : (n : Int) % 10 ≤ 9 := by omega
      clear hq hr
      clear ih
      unfold txt at ih'
      have f1 : IntKind.i64.wrap ((n : Int) / 10) = (n : Int) / 10 := IntWalk.i64_in _ (by omega)
      have f2 : ((n : Int)).tmod 10 = (n : Int) % 10 := Int.tmod_eq_emod_of_nonneg (by omega)
      have f3 : IntKind.i64.wrap (48 + (n : Int) % 10) = 48 + (n : Int) % 10 := IntWalk.i64_in _ (by omega)
      have f4 : IntKind.u8.wrap (48 + (n : Int) % 10) = 48 + (n : Int) % 10 := by unfold IntKind.wrap; simp [IntKind.bits, IntKind.signed]; omega
      have hl : (Lib.decDigits (n / 10)).length ≤ 21 := by
        have := Lib.itoa_length_le ((n / 10 : Nat) : Int) (by omega) (by omega)
        rwa [Lib.itoa_nonneg] at this
      have hadd : ∀ (w : World) (y : UInt8), (Op.stringOp .add ⟨(Lib.decDigits (n / 10)).toArray⟩ ⟨#[y]⟩).run Tryd.prog w = .ok (.string ⟨(Lib.decDigits (n / 10) ++ [y]).toArray⟩) w := fun w y => by
        have := run_string_add_lists (P := Tryd.prog) w (Lib.decDigits (n / 10)) [y] (by omega) (by simp)
        exact this
      have HL := Lib.hid hl
      clear hl
      go_enter Tryd.func15, Tryd.ntmps15
      go_wp2_with fail
      go_region_with ((first | (go_at_call 15; refine (ih' _).mono ?_; rintro e w1 ⟨rfl, hb1⟩; (try (have kc1 : (convert 38 9 (.slice (some ⟨w.heap.size, 0, none⟩) 1 1)).run Tryd.prog w1 = _ := conv_at' hb1)); have HB := Lib.hid hb1; clear hb1)))
      all_goals
        go_wp2_with fail
        go_ret
        refine ⟨by rw [HD.out, HR.out]; rfl, ?_⟩
        first | exact end1 HB.out _ | exact end2 HB.out
end Go.Proofs.YtieniogfnhhlbaaDoor
