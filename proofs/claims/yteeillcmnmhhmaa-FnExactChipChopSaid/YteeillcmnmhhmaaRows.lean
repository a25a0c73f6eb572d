/-
  No cell of these rows narrows 'for every input' (looked for: loops, veiled, ifaces, maps, wideKeys, modest, calm, conditions, laid).
  DERIVED. THE GIVEN ROWS OF THIS SEAT. 10 by the template 'for every input the law returns true; each argument reads behind the call as it read before'; 0 by the template 'total and deterministic' (their statements: YteeillcmnmhhmaaTotals.lean).
  GIVEN WITH THE SEED: the statements are not yours to turn. If you find one false, say at which input.
  Laid BY PROGRAM, IN A SANDBOX (cutbox-rows.mjs): the forced cells as the released guide's own fill.sh prints them over the translation 9ea7ebe801983a63… (all of the seat's roots in one cut). By AI agents, Wed Nov 11 2026. No macro, syntax, notation, axiom, sorry.
-/
import Derived.Test.YteeillcmnmhhmaaChecked
import GoSem.Claim
import GoSem.ClaimJoined
import GoSem.ClaimMapViews
import Derived.JoinedTies
import Derived.KernelRfl
namespace Go.Proofs.Yteeillcmnmhhmaa
/- THE CELL 'sum', in the pinned program and in every row, IS THE sha256 OF THE DUMP (.gsa) THAT YteeillcmnmhhmaaProg.lean LOADS. Nothing in Lean hashes anything: it is a label: what it is worth is what the hold of that sum in a sandbox is worth. -/
noncomputable def Try.pinned : Pinned := { name := "yteeillcmnmhhmaa", sum := "9ea7ebe801983a63b6f95592ddb754db1a322cff4fe0040418f2f3efb45f48fd", checked := Try.checked }
namespace Rows
def none {H : Type} : Left H := { results := [], args := [] }

/-- 'laws.FnExactModelChop': WHATEVER THE INPUT: true; the input reads as it did. -/
def fnExactModelChopSpec : ChangeSpec := { name := "fnExactModelChop", fn := fun _ => fun
  | [d1, d2] => { results := [.lit (.bool true)], args := [d1, d2] }
  | _ => none }
def fnExactModelChopRow : OpenClaim := { program := "yteeillcmnmhhmaa", sum := "9ea7ebe801983a63b6f95592ddb754db1a322cff4fe0040418f2f3efb45f48fd", func := "loop.example/g00910/laws.FnExactModelChop", spec := "fnExactModelChop", recurses := true, apart := false }
def FnExactModelChopSaid : Prop := fnExactModelChopRow.holds Try.pinned (OpenSpec.ofChange fnExactModelChopSpec)

/-- ITS FALSE NEIGHBOUR: 'it returns false'. Refute it at one input. -/
def fnExactModelChopWrong : ChangeSpec := { name := "fnExactModelChop", fn := fun _ => fun
  | [d1, d2] => { results := [.lit (.bool false)], args := [d1, d2] }
  | _ => none }
def FnExactModelChopWrongFalsely : Prop := fnExactModelChopRow.holds Try.pinned (OpenSpec.ofChange fnExactModelChopWrong)

/-- 'laws.FnExactWorstDeal': WHATEVER THE INPUT: true; the input reads as it did. -/
def fnExactWorstDealSpec : ChangeSpec := { name := "fnExactWorstDeal", fn := fun _ => fun
  | [d1, d2, d3] => { results := [.lit (.bool true)], args := [d1, d2, d3] }
  | _ => none }
def fnExactWorstDealRow : OpenClaim := { program := "yteeillcmnmhhmaa", sum := "9ea7ebe801983a63b6f95592ddb754db1a322cff4fe0040418f2f3efb45f48fd", func := "loop.example/g00910/laws.FnExactWorstDeal", spec := "fnExactWorstDeal", recurses := true, apart := false }
def FnExactWorstDealSaid : Prop := fnExactWorstDealRow.holds Try.pinned (OpenSpec.ofChange fnExactWorstDealSpec)

/-- ITS FALSE NEIGHBOUR: 'it returns false'. Refute it at one input. -/
def fnExactWorstDealWrong : ChangeSpec := { name := "fnExactWorstDeal", fn := fun _ => fun
  | [d1, d2, d3] => { results := [.lit (.bool false)], args := [d1, d2, d3] }
  | _ => none }
def FnExactWorstDealWrongFalsely : Prop := fnExactWorstDealRow.holds Try.pinned (OpenSpec.ofChange fnExactWorstDealWrong)

/-- 'laws.FnExactChipChop': WHATEVER THE INPUT: true; the input reads as it did. -/
def fnExactChipChopSpec : ChangeSpec := { name := "fnExactChipChop", fn := fun _ => fun
  | [d1, d2] => { results := [.lit (.bool true)], args := [d1, d2] }
  | _ => none }
def fnExactChipChopRow : OpenClaim := { program := "yteeillcmnmhhmaa", sum := "9ea7ebe801983a63b6f95592ddb754db1a322cff4fe0040418f2f3efb45f48fd", func := "loop.example/g00910/laws.FnExactChipChop", spec := "fnExactChipChop", apart := false }
def FnExactChipChopSaid : Prop := fnExactChipChopRow.holds Try.pinned (OpenSpec.ofChange fnExactChipChopSpec)

/-- ITS FALSE NEIGHBOUR: 'it returns false'. Refute it at one input. -/
def fnExactChipChopWrong : ChangeSpec := { name := "fnExactChipChop", fn := fun _ => fun
  | [d1, d2] => { results := [.lit (.bool false)], args := [d1, d2] }
  | _ => none }
def FnExactChipChopWrongFalsely : Prop := fnExactChipChopRow.holds Try.pinned (OpenSpec.ofChange fnExactChipChopWrong)

/-- 'laws.FnExactEvenChop': WHATEVER THE INPUT: true; the input reads as it did. -/
def fnExactEvenChopSpec : ChangeSpec := { name := "fnExactEvenChop", fn := fun _ => fun
  | [d1, d2] => { results := [.lit (.bool true)], args := [d1, d2] }
  | _ => none }
def fnExactEvenChopRow : OpenClaim := { program := "yteeillcmnmhhmaa", sum := "9ea7ebe801983a63b6f95592ddb754db1a322cff4fe0040418f2f3efb45f48fd", func := "loop.example/g00910/laws.FnExactEvenChop", spec := "fnExactEvenChop", apart := false }
def FnExactEvenChopSaid : Prop := fnExactEvenChopRow.holds Try.pinned (OpenSpec.ofChange fnExactEvenChopSpec)

/-- ITS FALSE NEIGHBOUR: 'it returns false'. Refute it at one input. -/
def fnExactEvenChopWrong : ChangeSpec := { name := "fnExactEvenChop", fn := fun _ => fun
  | [d1, d2] => { results := [.lit (.bool false)], args := [d1, d2] }
  | _ => none }
def FnExactEvenChopWrongFalsely : Prop := fnExactEvenChopRow.holds Try.pinned (OpenSpec.ofChange fnExactEvenChopWrong)

/-- 'laws.FnExactSavePrize': WHATEVER THE INPUT: true; the input reads as it did. -/
def fnExactSavePrizeSpec : ChangeSpec := { name := "fnExactSavePrize", fn := fun _ => fun
  | [d1, d2] => { results := [.lit (.bool true)], args := [d1, d2] }
  | _ => none }
def fnExactSavePrizeRow : OpenClaim := { program := "yteeillcmnmhhmaa", sum := "9ea7ebe801983a63b6f95592ddb754db1a322cff4fe0040418f2f3efb45f48fd", func := "loop.example/g00910/laws.FnExactSavePrize", spec := "fnExactSavePrize", apart := false }
def FnExactSavePrizeSaid : Prop := fnExactSavePrizeRow.holds Try.pinned (OpenSpec.ofChange fnExactSavePrizeSpec)

/-- ITS FALSE NEIGHBOUR: 'it returns false'. Refute it at one input. -/
def fnExactSavePrizeWrong : ChangeSpec := { name := "fnExactSavePrize", fn := fun _ => fun
  | [d1, d2] => { results := [.lit (.bool false)], args := [d1, d2] }
  | _ => none }
def FnExactSavePrizeWrongFalsely : Prop := fnExactSavePrizeRow.holds Try.pinned (OpenSpec.ofChange fnExactSavePrizeWrong)

/-- 'laws.FnExactSplitBounty': WHATEVER THE INPUT: true; the input reads as it did. -/
def fnExactSplitBountySpec : ChangeSpec := { name := "fnExactSplitBounty", fn := fun _ => fun
  | [d1, d2] => { results := [.lit (.bool true)], args := [d1, d2] }
  | _ => none }
def fnExactSplitBountyRow : OpenClaim := { program := "yteeillcmnmhhmaa", sum := "9ea7ebe801983a63b6f95592ddb754db1a322cff4fe0040418f2f3efb45f48fd", func := "loop.example/g00910/laws.FnExactSplitBounty", spec := "fnExactSplitBounty", apart := false }
def FnExactSplitBountySaid : Prop := fnExactSplitBountyRow.holds Try.pinned (OpenSpec.ofChange fnExactSplitBountySpec)

/-- ITS FALSE NEIGHBOUR: 'it returns false'. Refute it at one input. -/
def fnExactSplitBountyWrong : ChangeSpec := { name := "fnExactSplitBounty", fn := fun _ => fun
  | [d1, d2] => { results := [.lit (.bool false)], args := [d1, d2] }
  | _ => none }
def FnExactSplitBountyWrongFalsely : Prop := fnExactSplitBountyRow.holds Try.pinned (OpenSpec.ofChange fnExactSplitBountyWrong)

/-- 'laws.FnExactDivideMoney': WHATEVER THE INPUT: true; the input reads as it did. -/
def fnExactDivideMoneySpec : ChangeSpec := { name := "fnExactDivideMoney", fn := fun _ => fun
  | [d1, d2] => { results := [.lit (.bool true)], args := [d1, d2] }
  | _ => none }
def fnExactDivideMoneyRow : OpenClaim := { program := "yteeillcmnmhhmaa", sum := "9ea7ebe801983a63b6f95592ddb754db1a322cff4fe0040418f2f3efb45f48fd", func := "loop.example/g00910/laws.FnExactDivideMoney", spec := "fnExactDivideMoney", apart := false }
def FnExactDivideMoneySaid : Prop := fnExactDivideMoneyRow.holds Try.pinned (OpenSpec.ofChange fnExactDivideMoneySpec)

/-- ITS FALSE NEIGHBOUR: 'it returns false'. Refute it at one input. -/
def fnExactDivideMoneyWrong : ChangeSpec := { name := "fnExactDivideMoney", fn := fun _ => fun
  | [d1, d2] => { results := [.lit (.bool false)], args := [d1, d2] }
  | _ => none }
def FnExactDivideMoneyWrongFalsely : Prop := fnExactDivideMoneyRow.holds Try.pinned (OpenSpec.ofChange fnExactDivideMoneyWrong)

/-- 'laws.FnDivided': WHATEVER THE INPUT: true; the input reads as it did. -/
def fnDividedSpec : ChangeSpec := { name := "fnDivided", fn := fun _ => fun
  | [d] => { results := [.lit (.bool true)], args := [d] }
  | _ => none }
def fnDividedRow : OpenClaim := { program := "yteeillcmnmhhmaa", sum := "9ea7ebe801983a63b6f95592ddb754db1a322cff4fe0040418f2f3efb45f48fd", func := "loop.example/g00910/laws.FnDivided", spec := "fnDivided", apart := false }
def FnDividedSaid : Prop := fnDividedRow.holds Try.pinned (OpenSpec.ofChange fnDividedSpec)

/-- ITS FALSE NEIGHBOUR: 'it returns false'. Refute it at one input. -/
def fnDividedWrong : ChangeSpec := { name := "fnDivided", fn := fun _ => fun
  | [d] => { results := [.lit (.bool false)], args := [d] }
  | _ => none }
def FnDividedWrongFalsely : Prop := fnDividedRow.holds Try.pinned (OpenSpec.ofChange fnDividedWrong)

/-- 'laws.FnChops': WHATEVER THE INPUT: true; the input reads as it did. -/
def fnChopsSpec : ChangeSpec := { name := "fnChops", fn := fun _ => fun
  | [d] => { results := [.lit (.bool true)], args := [d] }
  | _ => none }
def fnChopsRow : OpenClaim := { program := "yteeillcmnmhhmaa", sum := "9ea7ebe801983a63b6f95592ddb754db1a322cff4fe0040418f2f3efb45f48fd", func := "loop.example/g00910/laws.FnChops", spec := "fnChops", recurses := true, apart := false }
def FnChopsSaid : Prop := fnChopsRow.holds Try.pinned (OpenSpec.ofChange fnChopsSpec)

/-- ITS FALSE NEIGHBOUR: 'it returns false'. Refute it at one input. -/
def fnChopsWrong : ChangeSpec := { name := "fnChops", fn := fun _ => fun
  | [d] => { results := [.lit (.bool false)], args := [d] }
  | _ => none }
def FnChopsWrongFalsely : Prop := fnChopsRow.holds Try.pinned (OpenSpec.ofChange fnChopsWrong)

/-- 'laws.FnWorst': WHATEVER THE INPUT: true; the input reads as it did. -/
def fnWorstSpec : ChangeSpec := { name := "fnWorst", fn := fun _ => fun
  | [d] => { results := [.lit (.bool true)], args := [d] }
  | _ => none }
def fnWorstRow : OpenClaim := { program := "yteeillcmnmhhmaa", sum := "9ea7ebe801983a63b6f95592ddb754db1a322cff4fe0040418f2f3efb45f48fd", func := "loop.example/g00910/laws.FnWorst", spec := "fnWorst", recurses := true, apart := false }
def FnWorstSaid : Prop := fnWorstRow.holds Try.pinned (OpenSpec.ofChange fnWorstSpec)

/-- ITS FALSE NEIGHBOUR: 'it returns false'. Refute it at one input. -/
def fnWorstWrong : ChangeSpec := { name := "fnWorst", fn := fun _ => fun
  | [d] => { results := [.lit (.bool false)], args := [d] }
  | _ => none }
def FnWorstWrongFalsely : Prop := fnWorstRow.holds Try.pinned (OpenSpec.ofChange fnWorstWrong)

/- THE SECOND FORM. 'bulk': how many values and letters a reading holds, each counted each time it is reached (what is shared counts as often as it is met; a slice's spare places count too). A statement '..UptoSaid' is the law's where the arguments, and the package variables that the reading takes, are together of bulk at most 1048576: NARROWER than '..Said'. Prove '..Said' where nothing that the law and all that it calls make is longer than what came in: it says more and counts as full. Else prove '..UptoSaid'. A law counts once. -/
mutual
def uptoBulk {H : Type} : DataW H → Nat
  | .lit (.string bytes) => bytes.length + 1
  | .lit _ => 1
  | .nil => 1
  | .ptr d => uptoBulk d + 1
  | .slice elems spare => uptoBulkAll elems + uptoBulkAll spare + 1
  | .agg parts => uptoBulkAll parts + 1
  | .iface _ d => uptoBulk d + 1
  | .map entries => uptoBulkEntries entries + 1
  | .held _ => 1
def uptoBulkAll {H : Type} : List (DataW H) → Nat
  | [] => 0
  | d :: r => uptoBulk d + uptoBulkAll r
def uptoBulkEntries {H : Type} : List (Lit × DataW H) → Nat
  | [] => 0
  | x :: r => uptoBulkEntry x + uptoBulkEntries r
def uptoBulkEntry {H : Type} : Lit × DataW H → Nat
  | (.string bytes, d) => bytes.length + uptoBulk d + 1
  | (_, d) => uptoBulk d + 1
 end
def uptoSmall : (H : Type) → List (DataW H) → Bool := fun _ ds => decide (uptoBulkAll ds ≤ 1048576)
def OpenSpec.upto (s : _root_.Go.ChangeSpec) : _root_.Go.OpenSpec := { _root_.Go.OpenSpec.ofChange s with cond := some uptoSmall }

/-- 'laws.FnExactModelChop', WHERE WHAT IT READS IS OF BULK AT MOST 1048576: true; the input reads as it did. -/
def fnExactModelChopUptoRow : OpenClaim := { program := "yteeillcmnmhhmaa", sum := "9ea7ebe801983a63b6f95592ddb754db1a322cff4fe0040418f2f3efb45f48fd", func := "loop.example/g00910/laws.FnExactModelChop", spec := "fnExactModelChop", recurses := true, apart := false, narrowed := true }
def FnExactModelChopUptoSaid : Prop := fnExactModelChopUptoRow.holds Try.pinned (OpenSpec.upto fnExactModelChopSpec)

/-- 'laws.FnExactWorstDeal', WHERE WHAT IT READS IS OF BULK AT MOST 1048576: true; the input reads as it did. -/
def fnExactWorstDealUptoRow : OpenClaim := { program := "yteeillcmnmhhmaa", sum := "9ea7ebe801983a63b6f95592ddb754db1a322cff4fe0040418f2f3efb45f48fd", func := "loop.example/g00910/laws.FnExactWorstDeal", spec := "fnExactWorstDeal", recurses := true, apart := false, narrowed := true }
def FnExactWorstDealUptoSaid : Prop := fnExactWorstDealUptoRow.holds Try.pinned (OpenSpec.upto fnExactWorstDealSpec)

/-- 'laws.FnExactChipChop', WHERE WHAT IT READS IS OF BULK AT MOST 1048576: true; the input reads as it did. -/
def fnExactChipChopUptoRow : OpenClaim := { program := "yteeillcmnmhhmaa", sum := "9ea7ebe801983a63b6f95592ddb754db1a322cff4fe0040418f2f3efb45f48fd", func := "loop.example/g00910/laws.FnExactChipChop", spec := "fnExactChipChop", apart := false, narrowed := true }
def FnExactChipChopUptoSaid : Prop := fnExactChipChopUptoRow.holds Try.pinned (OpenSpec.upto fnExactChipChopSpec)

/-- 'laws.FnExactEvenChop', WHERE WHAT IT READS IS OF BULK AT MOST 1048576: true; the input reads as it did. -/
def fnExactEvenChopUptoRow : OpenClaim := { program := "yteeillcmnmhhmaa", sum := "9ea7ebe801983a63b6f95592ddb754db1a322cff4fe0040418f2f3efb45f48fd", func := "loop.example/g00910/laws.FnExactEvenChop", spec := "fnExactEvenChop", apart := false, narrowed := true }
def FnExactEvenChopUptoSaid : Prop := fnExactEvenChopUptoRow.holds Try.pinned (OpenSpec.upto fnExactEvenChopSpec)

/-- 'laws.FnExactSavePrize', WHERE WHAT IT READS IS OF BULK AT MOST 1048576: true; the input reads as it did. -/
def fnExactSavePrizeUptoRow : OpenClaim := { program := "yteeillcmnmhhmaa", sum := "9ea7ebe801983a63b6f95592ddb754db1a322cff4fe0040418f2f3efb45f48fd", func := "loop.example/g00910/laws.FnExactSavePrize", spec := "fnExactSavePrize", apart := false, narrowed := true }
def FnExactSavePrizeUptoSaid : Prop := fnExactSavePrizeUptoRow.holds Try.pinned (OpenSpec.upto fnExactSavePrizeSpec)

/-- 'laws.FnExactSplitBounty', WHERE WHAT IT READS IS OF BULK AT MOST 1048576: true; the input reads as it did. -/
def fnExactSplitBountyUptoRow : OpenClaim := { program := "yteeillcmnmhhmaa", sum := "9ea7ebe801983a63b6f95592ddb754db1a322cff4fe0040418f2f3efb45f48fd", func := "loop.example/g00910/laws.FnExactSplitBounty", spec := "fnExactSplitBounty", apart := false, narrowed := true }
def FnExactSplitBountyUptoSaid : Prop := fnExactSplitBountyUptoRow.holds Try.pinned (OpenSpec.upto fnExactSplitBountySpec)

/-- 'laws.FnExactDivideMoney', WHERE WHAT IT READS IS OF BULK AT MOST 1048576: true; the input reads as it did. -/
def fnExactDivideMoneyUptoRow : OpenClaim := { program := "yteeillcmnmhhmaa", sum := "9ea7ebe801983a63b6f95592ddb754db1a322cff4fe0040418f2f3efb45f48fd", func := "loop.example/g00910/laws.FnExactDivideMoney", spec := "fnExactDivideMoney", apart := false, narrowed := true }
def FnExactDivideMoneyUptoSaid : Prop := fnExactDivideMoneyUptoRow.holds Try.pinned (OpenSpec.upto fnExactDivideMoneySpec)

/-- 'laws.FnDivided', WHERE WHAT IT READS IS OF BULK AT MOST 1048576: true; the input reads as it did. -/
def fnDividedUptoRow : OpenClaim := { program := "yteeillcmnmhhmaa", sum := "9ea7ebe801983a63b6f95592ddb754db1a322cff4fe0040418f2f3efb45f48fd", func := "loop.example/g00910/laws.FnDivided", spec := "fnDivided", apart := false, narrowed := true }
def FnDividedUptoSaid : Prop := fnDividedUptoRow.holds Try.pinned (OpenSpec.upto fnDividedSpec)

/-- 'laws.FnChops', WHERE WHAT IT READS IS OF BULK AT MOST 1048576: true; the input reads as it did. -/
def fnChopsUptoRow : OpenClaim := { program := "yteeillcmnmhhmaa", sum := "9ea7ebe801983a63b6f95592ddb754db1a322cff4fe0040418f2f3efb45f48fd", func := "loop.example/g00910/laws.FnChops", spec := "fnChops", recurses := true, apart := false, narrowed := true }
def FnChopsUptoSaid : Prop := fnChopsUptoRow.holds Try.pinned (OpenSpec.upto fnChopsSpec)

/-- 'laws.FnWorst', WHERE WHAT IT READS IS OF BULK AT MOST 1048576: true; the input reads as it did. -/
def fnWorstUptoRow : OpenClaim := { program := "yteeillcmnmhhmaa", sum := "9ea7ebe801983a63b6f95592ddb754db1a322cff4fe0040418f2f3efb45f48fd", func := "loop.example/g00910/laws.FnWorst", spec := "fnWorst", recurses := true, apart := false, narrowed := true }
def FnWorstUptoSaid : Prop := fnWorstUptoRow.holds Try.pinned (OpenSpec.upto fnWorstSpec)

end Rows
end Go.Proofs.Yteeillcmnmhhmaa
