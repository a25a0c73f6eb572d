/-
  A row that grows while a source is drawn from. Conditions: the row lies above the source.
-/
import Derived.Test.YthpgkngkmmameaaSrc
namespace Go.Proofs.Ythpgkngkmmameaa
open Go.RowKit
set_option linter.unusedVariables false
theorem Row.keptS {w w' : World} {base g : Nat} {A : Option Addr} {n c : Nat} {zs : List Int} (h : Row w base A n c zs) (hk : Kept g (g + 1) w w') (hg : g < base) : Row w' base A n c zs := by
  refine ⟨h.1, ?_⟩
  rcases h.2 with hn | ⟨b, cap, cur, hv, hb, hh, rest⟩
  · exact .inl hn
  · refine .inr ⟨b, cap, cur, hv, hb, ?_, rest⟩
    rw [hk.block b (Array.getElem?_eq_some_iff.1 hh).1 (by omega)]
    exact hh
theorem Src.belowB {w w' : World} {lo g B : Nat} (h : Src w lo g) (hb : Below B w w') (hg : g < B) : Src w' lo g :=
  h.keptOther (l := B) (h' := w.heap.size) ⟨hb.os, hb.tape, hb.output, hb.size, fun k hk hn => hb.block k (by omega)⟩ hg
theorem Kept.belowBase {l h : Nat} {a b c : World} (hk : Kept l h a b) (hb : Below a.heap.size b c) : Kept l h a c :=
  ⟨hb.os.trans hk.os, hb.tape.trans hk.tape, hb.output.trans hk.output, Nat.le_trans hk.size hb.size, fun k h1 h2 => (hb.block k h1).trans (hk.block k h1 h2)⟩
/-- Draw and append: what a round of such a loop keeps. -/
structure Drawing (w : World) (lo g : Nat) (wr : World) (A : Option Addr) (n c : Nat) (zs : List Int) (P : Int → Prop) : Prop where
  row : Row wr w.heap.size A n c zs
  src : Src wr lo g
  kept : Kept g (g + 1) w wr
  all : ∀ x ∈ zs, P x
theorem Row.addr {w : World} {base : Nat} {A : Option Addr} {n c : Nat} {zs : List Int} (h : Row w base A n c zs) (hn : 1 ≤ n) : ∃ b, A = some ⟨b, 0, none⟩ ∧ base ≤ b := by
  rcases h.2 with ⟨_, h0⟩ | ⟨b, cap, cur, hv, hb, hh, rest⟩
  · omega
  · injection hv with h1 _ _
    exact ⟨b, h1, hb⟩
end Go.Proofs.Ythpgkngkmmameaa
