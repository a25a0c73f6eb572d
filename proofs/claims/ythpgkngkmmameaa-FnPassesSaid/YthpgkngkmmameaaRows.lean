/-
  No cell of these rows narrows 'for every input' (looked for: loops, veiled, ifaces, maps, wideKeys, modest, calm, conditions, laid).
  DERIVED. THE GIVEN ROWS OF THIS SEAT. 10 by the template 'for every input the law returns true; each argument reads behind the call as it read before'; 0 by the template 'total and deterministic' (their statements: YthpgkngkmmameaaTotals.lean).
  GIVEN WITH THE SEED: the statements are not yours to turn. If you find one false, say at which input.
  Laid BY PROGRAM, IN A SANDBOX (cutbox-rows.mjs): the forced cells as the released guide's own fill.sh prints them over the translation 6f0fcb18fcd5c83c… (all of the seat's roots in one cut). By AI agents, Wed Nov 11 2026. No macro, syntax, notation, axiom, sorry.
-/
import Derived.Test.YthpgkngkmmameaaChecked
import GoSem.Claim
import GoSem.ClaimJoined
import GoSem.ClaimMapViews
import Derived.JoinedTies
import Derived.KernelRfl
namespace Go.Proofs.Ythpgkngkmmameaa
/- THE CELL 'sum', in the pinned program and in every row, IS THE sha256 OF THE DUMP (.gsa) THAT YthpgkngkmmameaaProg.lean LOADS. Nothing in Lean hashes anything: it is a label: what it is worth is what the hold of that sum in a sandbox is worth. -/
noncomputable def Try.pinned : Pinned := { name := "ythpgkngkmmameaa", sum := "6f0fcb18fcd5c83c63df531604edaa02b76e131a4a66f271b47d87605b192771", checked := Try.checked }
namespace Rows
def none {H : Type} : Left H := { results := [], args := [] }

/-- 'laws.FnExactModelChop': WHATEVER THE INPUT: true; the input reads as it did. -/
def fnExactModelChopSpec : ChangeSpec := { name := "fnExactModelChop", fn := fun _ => fun
  | [d1, d2] => { results := [.lit (.bool true)], args := [d1, d2] }
  | _ => none }
def fnExactModelChopRow : OpenClaim := { program := "ythpgkngkmmameaa", sum := "6f0fcb18fcd5c83c63df531604edaa02b76e131a4a66f271b47d87605b192771", func := "loop.example/g00910/laws.FnExactModelChop", spec := "fnExactModelChop", recurses := true, apart := false }
def FnExactModelChopSaid : Prop := fnExactModelChopRow.holds Try.pinned (OpenSpec.ofChange fnExactModelChopSpec)

/-- ITS FALSE NEIGHBOUR: 'it returns false'. Refute it at one input. -/
def fnExactModelChopWrong : ChangeSpec := { name := "fnExactModelChop", fn := fun _ => fun
  | [d1, d2] => { results := [.lit (.bool false)], args := [d1, d2] }
  | _ => none }
def FnExactModelChopWrongFalsely : Prop := fnExactModelChopRow.holds Try.pinned (OpenSpec.ofChange fnExactModelChopWrong)

/-- 'laws.FnExactWorstDeal': WHATEVER THE INPUT: true; the input reads as it did. -/
def fnExactWorstDealSpec : ChangeSpec := { name := "fnExactWorstDeal", fn := fun _ => fun
  | [d1, d2, d3] => { results := [.lit (.bool true)], args := [d1, d2, d3] }
  | _ => none }
def fnExactWorstDealRow : OpenClaim := { program := "ythpgkngkmmameaa", sum := "6f0fcb18fcd5c83c63df531604edaa02b76e131a4a66f271b47d87605b192771", func := "loop.example/g00910/laws.FnExactWorstDeal", spec := "fnExactWorstDeal", recurses := true, apart := false }
def FnExactWorstDealSaid : Prop := fnExactWorstDealRow.holds Try.pinned (OpenSpec.ofChange fnExactWorstDealSpec)

/-- ITS FALSE NEIGHBOUR: 'it returns false'. Refute it at one input. -/
def fnExactWorstDealWrong : ChangeSpec := { name := "fnExactWorstDeal", fn := fun _ => fun
  | [d1, d2, d3] => { results := [.lit (.bool false)], args := [d1, d2, d3] }
  | _ => none }
def FnExactWorstDealWrongFalsely : Prop := fnExactWorstDealRow.holds Try.pinned (OpenSpec.ofChange fnExactWorstDealWrong)

/-- 'laws.FnDivided': WHATEVER THE INPUT: true; the input reads as it did. -/
def fnDividedSpec : ChangeSpec := { name := "fnDivided", fn := fun _ => fun
  | [d] => { results := [.lit (.bool true)], args := [d] }
  | _ => none }
def fnDividedRow : OpenClaim := { program := "ythpgkngkmmameaa", sum := "6f0fcb18fcd5c83c63df531604edaa02b76e131a4a66f271b47d87605b192771", func := "loop.example/g00910/laws.FnDivided", spec := "fnDivided", apart := false }
def FnDividedSaid : Prop := fnDividedRow.holds Try.pinned (OpenSpec.ofChange fnDividedSpec)

/-- ITS FALSE NEIGHBOUR: 'it returns false'. Refute it at one input. -/
def fnDividedWrong : ChangeSpec := { name := "fnDivided", fn := fun _ => fun
  | [d] => { results := [.lit (.bool false)], args := [d] }
  | _ => none }
def FnDividedWrongFalsely : Prop := fnDividedRow.holds Try.pinned (OpenSpec.ofChange fnDividedWrong)

/-- 'laws.FnChops': WHATEVER THE INPUT: true; the input reads as it did. -/
def fnChopsSpec : ChangeSpec := { name := "fnChops", fn := fun _ => fun
  | [d] => { results := [.lit (.bool true)], args := [d] }
  | _ => none }
def fnChopsRow : OpenClaim := { program := "ythpgkngkmmameaa", sum := "6f0fcb18fcd5c83c63df531604edaa02b76e131a4a66f271b47d87605b192771", func := "loop.example/g00910/laws.FnChops", spec := "fnChops", recurses := true, apart := false }
def FnChopsSaid : Prop := fnChopsRow.holds Try.pinned (OpenSpec.ofChange fnChopsSpec)

/-- ITS FALSE NEIGHBOUR: 'it returns false'. Refute it at one input. -/
def fnChopsWrong : ChangeSpec := { name := "fnChops", fn := fun _ => fun
  | [d] => { results := [.lit (.bool false)], args := [d] }
  | _ => none }
def FnChopsWrongFalsely : Prop := fnChopsRow.holds Try.pinned (OpenSpec.ofChange fnChopsWrong)

/-- 'laws.FnWorst': WHATEVER THE INPUT: true; the input reads as it did. -/
def fnWorstSpec : ChangeSpec := { name := "fnWorst", fn := fun _ => fun
  | [d] => { results := [.lit (.bool true)], args := [d] }
  | _ => none }
def fnWorstRow : OpenClaim := { program := "ythpgkngkmmameaa", sum := "6f0fcb18fcd5c83c63df531604edaa02b76e131a4a66f271b47d87605b192771", func := "loop.example/g00910/laws.FnWorst", spec := "fnWorst", recurses := true, apart := false }
def FnWorstSaid : Prop := fnWorstRow.holds Try.pinned (OpenSpec.ofChange fnWorstSpec)

/-- ITS FALSE NEIGHBOUR: 'it returns false'. Refute it at one input. -/
def fnWorstWrong : ChangeSpec := { name := "fnWorst", fn := fun _ => fun
  | [d] => { results := [.lit (.bool false)], args := [d] }
  | _ => none }
def FnWorstWrongFalsely : Prop := fnWorstRow.holds Try.pinned (OpenSpec.ofChange fnWorstWrong)

/-- 'laws.FnExactFinishesOf': WHATEVER THE INPUT: true; the input reads as it did. -/
def fnExactFinishesOfSpec : ChangeSpec := { name := "fnExactFinishesOf", fn := fun _ => fun
  | [d1, d2] => { results := [.lit (.bool true)], args := [d1, d2] }
  | _ => none }
def fnExactFinishesOfRow : OpenClaim := { program := "ythpgkngkmmameaa", sum := "6f0fcb18fcd5c83c63df531604edaa02b76e131a4a66f271b47d87605b192771", func := "loop.example/g00910/laws.FnExactFinishesOf", spec := "fnExactFinishesOf", apart := false }
def FnExactFinishesOfSaid : Prop := fnExactFinishesOfRow.holds Try.pinned (OpenSpec.ofChange fnExactFinishesOfSpec)

/-- ITS FALSE NEIGHBOUR: 'it returns false'. Refute it at one input. -/
def fnExactFinishesOfWrong : ChangeSpec := { name := "fnExactFinishesOf", fn := fun _ => fun
  | [d1, d2] => { results := [.lit (.bool false)], args := [d1, d2] }
  | _ => none }
def FnExactFinishesOfWrongFalsely : Prop := fnExactFinishesOfRow.holds Try.pinned (OpenSpec.ofChange fnExactFinishesOfWrong)

/-- 'laws.FnExactPrizesWon': WHATEVER THE INPUT: true; the input reads as it did. -/
def fnExactPrizesWonSpec : ChangeSpec := { name := "fnExactPrizesWon", fn := fun _ => fun
  | [d1, d2] => { results := [.lit (.bool true)], args := [d1, d2] }
  | _ => none }
def fnExactPrizesWonRow : OpenClaim := { program := "ythpgkngkmmameaa", sum := "6f0fcb18fcd5c83c63df531604edaa02b76e131a4a66f271b47d87605b192771", func := "loop.example/g00910/laws.FnExactPrizesWon", spec := "fnExactPrizesWon", apart := false }
def FnExactPrizesWonSaid : Prop := fnExactPrizesWonRow.holds Try.pinned (OpenSpec.ofChange fnExactPrizesWonSpec)

/-- ITS FALSE NEIGHBOUR: 'it returns false'. Refute it at one input. -/
def fnExactPrizesWonWrong : ChangeSpec := { name := "fnExactPrizesWon", fn := fun _ => fun
  | [d1, d2] => { results := [.lit (.bool false)], args := [d1, d2] }
  | _ => none }
def FnExactPrizesWonWrongFalsely : Prop := fnExactPrizesWonRow.holds Try.pinned (OpenSpec.ofChange fnExactPrizesWonWrong)

/-- 'laws.FnPayouts': WHATEVER THE INPUT: true; the input reads as it did. -/
def fnPayoutsSpec : ChangeSpec := { name := "fnPayouts", fn := fun _ => fun
  | [d] => { results := [.lit (.bool true)], args := [d] }
  | _ => none }
def fnPayoutsRow : OpenClaim := { program := "ythpgkngkmmameaa", sum := "6f0fcb18fcd5c83c63df531604edaa02b76e131a4a66f271b47d87605b192771", func := "loop.example/g00910/laws.FnPayouts", spec := "fnPayouts", apart := false }
def FnPayoutsSaid : Prop := fnPayoutsRow.holds Try.pinned (OpenSpec.ofChange fnPayoutsSpec)

/-- ITS FALSE NEIGHBOUR: 'it returns false'. Refute it at one input. -/
def fnPayoutsWrong : ChangeSpec := { name := "fnPayouts", fn := fun _ => fun
  | [d] => { results := [.lit (.bool false)], args := [d] }
  | _ => none }
def FnPayoutsWrongFalsely : Prop := fnPayoutsRow.holds Try.pinned (OpenSpec.ofChange fnPayoutsWrong)

/-- 'laws.FnFinishes': WHATEVER THE INPUT: true; the input reads as it did. -/
def fnFinishesSpec : ChangeSpec := { name := "fnFinishes", fn := fun _ => fun
  | [d] => { results := [.lit (.bool true)], args := [d] }
  | _ => none }
def fnFinishesRow : OpenClaim := { program := "ythpgkngkmmameaa", sum := "6f0fcb18fcd5c83c63df531604edaa02b76e131a4a66f271b47d87605b192771", func := "loop.example/g00910/laws.FnFinishes", spec := "fnFinishes", apart := false }
def FnFinishesSaid : Prop := fnFinishesRow.holds Try.pinned (OpenSpec.ofChange fnFinishesSpec)

/-- ITS FALSE NEIGHBOUR: 'it returns false'. Refute it at one input. -/
def fnFinishesWrong : ChangeSpec := { name := "fnFinishes", fn := fun _ => fun
  | [d] => { results := [.lit (.bool false)], args := [d] }
  | _ => none }
def FnFinishesWrongFalsely : Prop := fnFinishesRow.holds Try.pinned (OpenSpec.ofChange fnFinishesWrong)

/-- 'laws.FnPasses': WHATEVER THE INPUT: true; the input reads as it did. -/
def fnPassesSpec : ChangeSpec := { name := "fnPasses", fn := fun _ => fun
  | [d] => { results := [.lit (.bool true)], args := [d] }
  | _ => none }
def fnPassesRow : OpenClaim := { program := "ythpgkngkmmameaa", sum := "6f0fcb18fcd5c83c63df531604edaa02b76e131a4a66f271b47d87605b192771", func := "loop.example/g00910/laws.FnPasses", spec := "fnPasses", unfollowed := true, recurses := true, apart := false }
def FnPassesSaid : Prop := fnPassesRow.holds Try.pinned (OpenSpec.ofChange fnPassesSpec)

/-- ITS FALSE NEIGHBOUR: 'it returns false'. Refute it at one input. -/
def fnPassesWrong : ChangeSpec := { name := "fnPasses", fn := fun _ => fun
  | [d] => { results := [.lit (.bool false)], args := [d] }
  | _ => none }
def FnPassesWrongFalsely : Prop := fnPassesRow.holds Try.pinned (OpenSpec.ofChange fnPassesWrong)

/- THE SECOND FORM. 'bulk': how many values and letters a reading holds, each counted each time it is reached (what is shared counts as often as it is met; a slice's spare places count too). A statement '..UptoSaid' is the law's where the arguments, and the package variables that the reading takes, are together of bulk at most 1048576: NARROWER than '..Said'. Prove '..Said' where nothing that the law and all that it calls make is longer than what came in: it says more and counts as full. Else prove '..UptoSaid'. A law counts once. -/
mutual
def uptoBulk {H : Type} : DataW H → Nat
  | .lit (.string bytes) => bytes.length + 1
  | .lit _ => 1
  | .nil => 1
  | .ptr d => uptoBulk d + 1
  | .slice elems spare => uptoBulkAll elems + uptoBulkAll spare + 1
  | .agg parts => uptoBulkAll parts + 1
  | .iface _ d => uptoBulk d + 1
  | .map entries => uptoBulkEntries entries + 1
  | .held _ => 1
def uptoBulkAll {H : Type} : List (DataW H) → Nat
  | [] => 0
  | d :: r => uptoBulk d + uptoBulkAll r
def uptoBulkEntries {H : Type} : List (Lit × DataW H) → Nat
  | [] => 0
  | x :: r => uptoBulkEntry x + uptoBulkEntries r
def uptoBulkEntry {H : Type} : Lit × DataW H → Nat
  | (.string bytes, d) => bytes.length + uptoBulk d + 1
  | (_, d) => uptoBulk d + 1
 end
def uptoSmall : (H : Type) → List (DataW H) → Bool := fun _ ds => decide (uptoBulkAll ds ≤ 1048576)
def OpenSpec.upto (s : _root_.Go.ChangeSpec) : _root_.Go.OpenSpec := { _root_.Go.OpenSpec.ofChange s with cond := some uptoSmall }

/-- 'laws.FnExactModelChop', WHERE WHAT IT READS IS OF BULK AT MOST 1048576: true; the input reads as it did. -/
def fnExactModelChopUptoRow : OpenClaim := { program := "ythpgkngkmmameaa", sum := "6f0fcb18fcd5c83c63df531604edaa02b76e131a4a66f271b47d87605b192771", func := "loop.example/g00910/laws.FnExactModelChop", spec := "fnExactModelChop", recurses := true, apart := false, narrowed := true }
def FnExactModelChopUptoSaid : Prop := fnExactModelChopUptoRow.holds Try.pinned (OpenSpec.upto fnExactModelChopSpec)

/-- 'laws.FnExactWorstDeal', WHERE WHAT IT READS IS OF BULK AT MOST 1048576: true; the input reads as it did. -/
def fnExactWorstDealUptoRow : OpenClaim := { program := "ythpgkngkmmameaa", sum := "6f0fcb18fcd5c83c63df531604edaa02b76e131a4a66f271b47d87605b192771", func := "loop.example/g00910/laws.FnExactWorstDeal", spec := "fnExactWorstDeal", recurses := true, apart := false, narrowed := true }
def FnExactWorstDealUptoSaid : Prop := fnExactWorstDealUptoRow.holds Try.pinned (OpenSpec.upto fnExactWorstDealSpec)

/-- 'laws.FnDivided', WHERE WHAT IT READS IS OF BULK AT MOST 1048576: true; the input reads as it did. -/
def fnDividedUptoRow : OpenClaim := { program := "ythpgkngkmmameaa", sum := "6f0fcb18fcd5c83c63df531604edaa02b76e131a4a66f271b47d87605b192771", func := "loop.example/g00910/laws.FnDivided", spec := "fnDivided", apart := false, narrowed := true }
def FnDividedUptoSaid : Prop := fnDividedUptoRow.holds Try.pinned (OpenSpec.upto fnDividedSpec)

/-- 'laws.FnChops', WHERE WHAT IT READS IS OF BULK AT MOST 1048576: true; the input reads as it did. -/
def fnChopsUptoRow : OpenClaim := { program := "ythpgkngkmmameaa", sum := "6f0fcb18fcd5c83c63df531604edaa02b76e131a4a66f271b47d87605b192771", func := "loop.example/g00910/laws.FnChops", spec := "fnChops", recurses := true, apart := false, narrowed := true }
def FnChopsUptoSaid : Prop := fnChopsUptoRow.holds Try.pinned (OpenSpec.upto fnChopsSpec)

/-- 'laws.FnWorst', WHERE WHAT IT READS IS OF BULK AT MOST 1048576: true; the input reads as it did. -/
def fnWorstUptoRow : OpenClaim := { program := "ythpgkngkmmameaa", sum := "6f0fcb18fcd5c83c63df531604edaa02b76e131a4a66f271b47d87605b192771", func := "loop.example/g00910/laws.FnWorst", spec := "fnWorst", recurses := true, apart := false, narrowed := true }
def FnWorstUptoSaid : Prop := fnWorstUptoRow.holds Try.pinned (OpenSpec.upto fnWorstSpec)

/-- 'laws.FnExactFinishesOf', WHERE WHAT IT READS IS OF BULK AT MOST 1048576: true; the input reads as it did. -/
def fnExactFinishesOfUptoRow : OpenClaim := { program := "ythpgkngkmmameaa", sum := "6f0fcb18fcd5c83c63df531604edaa02b76e131a4a66f271b47d87605b192771", func := "loop.example/g00910/laws.FnExactFinishesOf", spec := "fnExactFinishesOf", apart := false, narrowed := true }
def FnExactFinishesOfUptoSaid : Prop := fnExactFinishesOfUptoRow.holds Try.pinned (OpenSpec.upto fnExactFinishesOfSpec)

/-- 'laws.FnExactPrizesWon', WHERE WHAT IT READS IS OF BULK AT MOST 1048576: true; the input reads as it did. -/
def fnExactPrizesWonUptoRow : OpenClaim := { program := "ythpgkngkmmameaa", sum := "6f0fcb18fcd5c83c63df531604edaa02b76e131a4a66f271b47d87605b192771", func := "loop.example/g00910/laws.FnExactPrizesWon", spec := "fnExactPrizesWon", apart := false, narrowed := true }
def FnExactPrizesWonUptoSaid : Prop := fnExactPrizesWonUptoRow.holds Try.pinned (OpenSpec.upto fnExactPrizesWonSpec)

/-- 'laws.FnPayouts', WHERE WHAT IT READS IS OF BULK AT MOST 1048576: true; the input reads as it did. -/
def fnPayoutsUptoRow : OpenClaim := { program := "ythpgkngkmmameaa", sum := "6f0fcb18fcd5c83c63df531604edaa02b76e131a4a66f271b47d87605b192771", func := "loop.example/g00910/laws.FnPayouts", spec := "fnPayouts", apart := false, narrowed := true }
def FnPayoutsUptoSaid : Prop := fnPayoutsUptoRow.holds Try.pinned (OpenSpec.upto fnPayoutsSpec)

/-- 'laws.FnFinishes', WHERE WHAT IT READS IS OF BULK AT MOST 1048576: true; the input reads as it did. -/
def fnFinishesUptoRow : OpenClaim := { program := "ythpgkngkmmameaa", sum := "6f0fcb18fcd5c83c63df531604edaa02b76e131a4a66f271b47d87605b192771", func := "loop.example/g00910/laws.FnFinishes", spec := "fnFinishes", apart := false, narrowed := true }
def FnFinishesUptoSaid : Prop := fnFinishesUptoRow.holds Try.pinned (OpenSpec.upto fnFinishesSpec)

/-- 'laws.FnPasses', WHERE WHAT IT READS IS OF BULK AT MOST 1048576: true; the input reads as it did. -/
def fnPassesUptoRow : OpenClaim := { program := "ythpgkngkmmameaa", sum := "6f0fcb18fcd5c83c63df531604edaa02b76e131a4a66f271b47d87605b192771", func := "loop.example/g00910/laws.FnPasses", spec := "fnPasses", unfollowed := true, recurses := true, apart := false, narrowed := true }
def FnPassesUptoSaid : Prop := fnPassesUptoRow.holds Try.pinned (OpenSpec.upto fnPassesSpec)

end Rows
end Go.Proofs.Ythpgkngkmmameaa
