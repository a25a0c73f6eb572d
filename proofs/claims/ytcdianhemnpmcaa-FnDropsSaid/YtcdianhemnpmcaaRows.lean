/-
  No cell of these rows narrows 'for every input' (looked for: loops, veiled, ifaces, maps, wideKeys, modest, calm, conditions, laid).
  DERIVED. THE GIVEN ROWS OF THIS SEAT. 11 by the template 'for every input the law returns true; each argument reads behind the call as it read before'; 0 by the template 'total and deterministic' (their statements: YtcdianhemnpmcaaTotals.lean).
  GIVEN WITH THE SEED: the statements are not yours to turn. If you find one false, say at which input.
  Laid BY PROGRAM, IN A SANDBOX (cutbox-rows.mjs): the forced cells as the released guide's own fill.sh prints them over the translation 714ebe7bb09c2fc5… (all of the seat's roots in one cut). By AI agents, Wed Nov 11 2026. No macro, syntax, notation, axiom, sorry.
-/
import Derived.Test.YtcdianhemnpmcaaChecked
import GoSem.Claim
import GoSem.ClaimJoined
import GoSem.ClaimMapViews
import Derived.JoinedTies
import Derived.KernelRfl
namespace Go.Proofs.Ytcdianhemnpmcaa
/- THE CELL 'sum', in the pinned program and in every row, IS THE sha256 OF THE DUMP (.gsa) THAT YtcdianhemnpmcaaProg.lean LOADS. Nothing in Lean hashes anything: it is a label: what it is worth is what the hold of that sum in a sandbox is worth. -/
noncomputable def Try.pinned : Pinned := { name := "ytcdianhemnpmcaa", sum := "714ebe7bb09c2fc57a9cc67bbadf462976b55f55d80d30b1dab9bd887912ef0a", checked := Try.checked }
namespace Rows
def none {H : Type} : Left H := { results := [], args := [] }

/-- 'laws.FnExactGrowthShare': WHATEVER THE INPUT: true; the input reads as it did. -/
def fnExactGrowthShareSpec : ChangeSpec := { name := "fnExactGrowthShare", fn := fun _ => fun
  | [d1, d2] => { results := [.lit (.bool true)], args := [d1, d2] }
  | _ => none }
def fnExactGrowthShareRow : OpenClaim := { program := "ytcdianhemnpmcaa", sum := "714ebe7bb09c2fc57a9cc67bbadf462976b55f55d80d30b1dab9bd887912ef0a", func := "loop.example/g00910/laws.FnExactGrowthShare", spec := "fnExactGrowthShare", recurses := true, apart := false }
def FnExactGrowthShareSaid : Prop := fnExactGrowthShareRow.holds Try.pinned (OpenSpec.ofChange fnExactGrowthShareSpec)

/-- ITS FALSE NEIGHBOUR: 'it returns false'. Refute it at one input. -/
def fnExactGrowthShareWrong : ChangeSpec := { name := "fnExactGrowthShare", fn := fun _ => fun
  | [d1, d2] => { results := [.lit (.bool false)], args := [d1, d2] }
  | _ => none }
def FnExactGrowthShareWrongFalsely : Prop := fnExactGrowthShareRow.holds Try.pinned (OpenSpec.ofChange fnExactGrowthShareWrong)

/-- 'laws.FnExactExpectedRuns': WHATEVER THE INPUT: true; the input reads as it did. -/
def fnExactExpectedRunsSpec : ChangeSpec := { name := "fnExactExpectedRuns", fn := fun _ => fun
  | [d] => { results := [.lit (.bool true)], args := [d] }
  | _ => none }
def fnExactExpectedRunsRow : OpenClaim := { program := "ytcdianhemnpmcaa", sum := "714ebe7bb09c2fc57a9cc67bbadf462976b55f55d80d30b1dab9bd887912ef0a", func := "loop.example/g00910/laws.FnExactExpectedRuns", spec := "fnExactExpectedRuns", apart := false }
def FnExactExpectedRunsSaid : Prop := fnExactExpectedRunsRow.holds Try.pinned (OpenSpec.ofChange fnExactExpectedRunsSpec)

/-- ITS FALSE NEIGHBOUR: 'it returns false'. Refute it at one input. -/
def fnExactExpectedRunsWrong : ChangeSpec := { name := "fnExactExpectedRuns", fn := fun _ => fun
  | [d] => { results := [.lit (.bool false)], args := [d] }
  | _ => none }
def FnExactExpectedRunsWrongFalsely : Prop := fnExactExpectedRunsRow.holds Try.pinned (OpenSpec.ofChange fnExactExpectedRunsWrong)

/-- 'laws.FnExactBalancesOf': WHATEVER THE INPUT: true; the input reads as it did. -/
def fnExactBalancesOfSpec : ChangeSpec := { name := "fnExactBalancesOf", fn := fun _ => fun
  | [d] => { results := [.lit (.bool true)], args := [d] }
  | _ => none }
def fnExactBalancesOfRow : OpenClaim := { program := "ytcdianhemnpmcaa", sum := "714ebe7bb09c2fc57a9cc67bbadf462976b55f55d80d30b1dab9bd887912ef0a", func := "loop.example/g00910/laws.FnExactBalancesOf", spec := "fnExactBalancesOf", apart := false }
def FnExactBalancesOfSaid : Prop := fnExactBalancesOfRow.holds Try.pinned (OpenSpec.ofChange fnExactBalancesOfSpec)

/-- ITS FALSE NEIGHBOUR: 'it returns false'. Refute it at one input. -/
def fnExactBalancesOfWrong : ChangeSpec := { name := "fnExactBalancesOf", fn := fun _ => fun
  | [d] => { results := [.lit (.bool false)], args := [d] }
  | _ => none }
def FnExactBalancesOfWrongFalsely : Prop := fnExactBalancesOfRow.holds Try.pinned (OpenSpec.ofChange fnExactBalancesOfWrong)

/-- 'laws.FnExactGreatestDrop': WHATEVER THE INPUT: true; the input reads as it did. -/
def fnExactGreatestDropSpec : ChangeSpec := { name := "fnExactGreatestDrop", fn := fun _ => fun
  | [d] => { results := [.lit (.bool true)], args := [d] }
  | _ => none }
def fnExactGreatestDropRow : OpenClaim := { program := "ytcdianhemnpmcaa", sum := "714ebe7bb09c2fc57a9cc67bbadf462976b55f55d80d30b1dab9bd887912ef0a", func := "loop.example/g00910/laws.FnExactGreatestDrop", spec := "fnExactGreatestDrop", apart := false }
def FnExactGreatestDropSaid : Prop := fnExactGreatestDropRow.holds Try.pinned (OpenSpec.ofChange fnExactGreatestDropSpec)

/-- ITS FALSE NEIGHBOUR: 'it returns false'. Refute it at one input. -/
def fnExactGreatestDropWrong : ChangeSpec := { name := "fnExactGreatestDrop", fn := fun _ => fun
  | [d] => { results := [.lit (.bool false)], args := [d] }
  | _ => none }
def FnExactGreatestDropWrongFalsely : Prop := fnExactGreatestDropRow.holds Try.pinned (OpenSpec.ofChange fnExactGreatestDropWrong)

/-- 'laws.FnExactRuinChance': WHATEVER THE INPUT: true; the input reads as it did. -/
def fnExactRuinChanceSpec : ChangeSpec := { name := "fnExactRuinChance", fn := fun _ => fun
  | [d1, d2, d3] => { results := [.lit (.bool true)], args := [d1, d2, d3] }
  | _ => none }
def fnExactRuinChanceRow : OpenClaim := { program := "ytcdianhemnpmcaa", sum := "714ebe7bb09c2fc57a9cc67bbadf462976b55f55d80d30b1dab9bd887912ef0a", func := "loop.example/g00910/laws.FnExactRuinChance", spec := "fnExactRuinChance", recurses := true, apart := false }
def FnExactRuinChanceSaid : Prop := fnExactRuinChanceRow.holds Try.pinned (OpenSpec.ofChange fnExactRuinChanceSpec)

/-- ITS FALSE NEIGHBOUR: 'it returns false'. Refute it at one input. -/
def fnExactRuinChanceWrong : ChangeSpec := { name := "fnExactRuinChance", fn := fun _ => fun
  | [d1, d2, d3] => { results := [.lit (.bool false)], args := [d1, d2, d3] }
  | _ => none }
def FnExactRuinChanceWrongFalsely : Prop := fnExactRuinChanceRow.holds Try.pinned (OpenSpec.ofChange fnExactRuinChanceWrong)

/-- 'laws.FnExactMeanOf': WHATEVER THE INPUT: true; the input reads as it did. -/
def fnExactMeanOfSpec : ChangeSpec := { name := "fnExactMeanOf", fn := fun _ => fun
  | [d] => { results := [.lit (.bool true)], args := [d] }
  | _ => none }
def fnExactMeanOfRow : OpenClaim := { program := "ytcdianhemnpmcaa", sum := "714ebe7bb09c2fc57a9cc67bbadf462976b55f55d80d30b1dab9bd887912ef0a", func := "loop.example/g00910/laws.FnExactMeanOf", spec := "fnExactMeanOf", recurses := true, apart := false }
def FnExactMeanOfSaid : Prop := fnExactMeanOfRow.holds Try.pinned (OpenSpec.ofChange fnExactMeanOfSpec)

/-- ITS FALSE NEIGHBOUR: 'it returns false'. Refute it at one input. -/
def fnExactMeanOfWrong : ChangeSpec := { name := "fnExactMeanOf", fn := fun _ => fun
  | [d] => { results := [.lit (.bool false)], args := [d] }
  | _ => none }
def FnExactMeanOfWrongFalsely : Prop := fnExactMeanOfRow.holds Try.pinned (OpenSpec.ofChange fnExactMeanOfWrong)

/-- 'laws.FnExactTargetChance': WHATEVER THE INPUT: true; the input reads as it did. -/
def fnExactTargetChanceSpec : ChangeSpec := { name := "fnExactTargetChance", fn := fun _ => fun
  | [d1, d2, d3, d4] => { results := [.lit (.bool true)], args := [d1, d2, d3, d4] }
  | _ => none }
def fnExactTargetChanceRow : OpenClaim := { program := "ytcdianhemnpmcaa", sum := "714ebe7bb09c2fc57a9cc67bbadf462976b55f55d80d30b1dab9bd887912ef0a", func := "loop.example/g00910/laws.FnExactTargetChance", spec := "fnExactTargetChance", recurses := true, apart := false }
def FnExactTargetChanceSaid : Prop := fnExactTargetChanceRow.holds Try.pinned (OpenSpec.ofChange fnExactTargetChanceSpec)

/-- ITS FALSE NEIGHBOUR: 'it returns false'. Refute it at one input. -/
def fnExactTargetChanceWrong : ChangeSpec := { name := "fnExactTargetChance", fn := fun _ => fun
  | [d1, d2, d3, d4] => { results := [.lit (.bool false)], args := [d1, d2, d3, d4] }
  | _ => none }
def FnExactTargetChanceWrongFalsely : Prop := fnExactTargetChanceRow.holds Try.pinned (OpenSpec.ofChange fnExactTargetChanceWrong)

/-- 'laws.FnExactVarianceOf': WHATEVER THE INPUT: true; the input reads as it did. -/
def fnExactVarianceOfSpec : ChangeSpec := { name := "fnExactVarianceOf", fn := fun _ => fun
  | [d] => { results := [.lit (.bool true)], args := [d] }
  | _ => none }
def fnExactVarianceOfRow : OpenClaim := { program := "ytcdianhemnpmcaa", sum := "714ebe7bb09c2fc57a9cc67bbadf462976b55f55d80d30b1dab9bd887912ef0a", func := "loop.example/g00910/laws.FnExactVarianceOf", spec := "fnExactVarianceOf", recurses := true, apart := false }
def FnExactVarianceOfSaid : Prop := fnExactVarianceOfRow.holds Try.pinned (OpenSpec.ofChange fnExactVarianceOfSpec)

/-- ITS FALSE NEIGHBOUR: 'it returns false'. Refute it at one input. -/
def fnExactVarianceOfWrong : ChangeSpec := { name := "fnExactVarianceOf", fn := fun _ => fun
  | [d] => { results := [.lit (.bool false)], args := [d] }
  | _ => none }
def FnExactVarianceOfWrongFalsely : Prop := fnExactVarianceOfRow.holds Try.pinned (OpenSpec.ofChange fnExactVarianceOfWrong)

/-- 'laws.FnDrops': WHATEVER THE INPUT: true; the input reads as it did. -/
def fnDropsSpec : ChangeSpec := { name := "fnDrops", fn := fun _ => fun
  | [d] => { results := [.lit (.bool true)], args := [d] }
  | _ => none }
def fnDropsRow : OpenClaim := { program := "ytcdianhemnpmcaa", sum := "714ebe7bb09c2fc57a9cc67bbadf462976b55f55d80d30b1dab9bd887912ef0a", func := "loop.example/g00910/laws.FnDrops", spec := "fnDrops", apart := false }
def FnDropsSaid : Prop := fnDropsRow.holds Try.pinned (OpenSpec.ofChange fnDropsSpec)

/-- ITS FALSE NEIGHBOUR: 'it returns false'. Refute it at one input. -/
def fnDropsWrong : ChangeSpec := { name := "fnDrops", fn := fun _ => fun
  | [d] => { results := [.lit (.bool false)], args := [d] }
  | _ => none }
def FnDropsWrongFalsely : Prop := fnDropsRow.holds Try.pinned (OpenSpec.ofChange fnDropsWrong)

/-- 'laws.FnRuins': WHATEVER THE INPUT: true; the input reads as it did. -/
def fnRuinsSpec : ChangeSpec := { name := "fnRuins", fn := fun _ => fun
  | [d] => { results := [.lit (.bool true)], args := [d] }
  | _ => none }
def fnRuinsRow : OpenClaim := { program := "ytcdianhemnpmcaa", sum := "714ebe7bb09c2fc57a9cc67bbadf462976b55f55d80d30b1dab9bd887912ef0a", func := "loop.example/g00910/laws.FnRuins", spec := "fnRuins", recurses := true, apart := false }
def FnRuinsSaid : Prop := fnRuinsRow.holds Try.pinned (OpenSpec.ofChange fnRuinsSpec)

/-- ITS FALSE NEIGHBOUR: 'it returns false'. Refute it at one input. -/
def fnRuinsWrong : ChangeSpec := { name := "fnRuins", fn := fun _ => fun
  | [d] => { results := [.lit (.bool false)], args := [d] }
  | _ => none }
def FnRuinsWrongFalsely : Prop := fnRuinsRow.holds Try.pinned (OpenSpec.ofChange fnRuinsWrong)

/-- 'laws.FnStatistics': WHATEVER THE INPUT: true; the input reads as it did. -/
def fnStatisticsSpec : ChangeSpec := { name := "fnStatistics", fn := fun _ => fun
  | [d] => { results := [.lit (.bool true)], args := [d] }
  | _ => none }
def fnStatisticsRow : OpenClaim := { program := "ytcdianhemnpmcaa", sum := "714ebe7bb09c2fc57a9cc67bbadf462976b55f55d80d30b1dab9bd887912ef0a", func := "loop.example/g00910/laws.FnStatistics", spec := "fnStatistics", recurses := true, apart := false }
def FnStatisticsSaid : Prop := fnStatisticsRow.holds Try.pinned (OpenSpec.ofChange fnStatisticsSpec)

/-- ITS FALSE NEIGHBOUR: 'it returns false'. Refute it at one input. -/
def fnStatisticsWrong : ChangeSpec := { name := "fnStatistics", fn := fun _ => fun
  | [d] => { results := [.lit (.bool false)], args := [d] }
  | _ => none }
def FnStatisticsWrongFalsely : Prop := fnStatisticsRow.holds Try.pinned (OpenSpec.ofChange fnStatisticsWrong)

/- THE SECOND FORM. 'bulk': how many values and letters a reading holds, each counted each time it is reached (what is shared counts as often as it is met; a slice's spare places count too). A statement '..UptoSaid' is the law's where the arguments, and the package variables that the reading takes, are together of bulk at most 1048576: NARROWER than '..Said'. Prove '..Said' where nothing that the law and all that it calls make is longer than what came in: it says more and counts as full. Else prove '..UptoSaid'. A law counts once. -/
mutual
def uptoBulk {H : Type} : DataW H → Nat
  | .lit (.string bytes) => bytes.length + 1
  | .lit _ => 1
  | .nil => 1
  | .ptr d => uptoBulk d + 1
  | .slice elems spare => uptoBulkAll elems + uptoBulkAll spare + 1
  | .agg parts => uptoBulkAll parts + 1
  | .iface _ d => uptoBulk d + 1
  | .map entries => uptoBulkEntries entries + 1
  | .held _ => 1
def uptoBulkAll {H : Type} : List (DataW H) → Nat
  | [] => 0
  | d :: r => uptoBulk d + uptoBulkAll r
def uptoBulkEntries {H : Type} : List (Lit × DataW H) → Nat
  | [] => 0
  | x :: r => uptoBulkEntry x + uptoBulkEntries r
def uptoBulkEntry {H : Type} : Lit × DataW H → Nat
  | (.string bytes, d) => bytes.length + uptoBulk d + 1
  | (_, d) => uptoBulk d + 1
 end
def uptoSmall : (H : Type) → List (DataW H) → Bool := fun _ ds => decide (uptoBulkAll ds ≤ 1048576)
def OpenSpec.upto (s : _root_.Go.ChangeSpec) : _root_.Go.OpenSpec := { _root_.Go.OpenSpec.ofChange s with cond := some uptoSmall }

/-- 'laws.FnExactGrowthShare', WHERE WHAT IT READS IS OF BULK AT MOST 1048576: true; the input reads as it did. -/
def fnExactGrowthShareUptoRow : OpenClaim := { program := "ytcdianhemnpmcaa", sum := "714ebe7bb09c2fc57a9cc67bbadf462976b55f55d80d30b1dab9bd887912ef0a", func := "loop.example/g00910/laws.FnExactGrowthShare", spec := "fnExactGrowthShare", recurses := true, apart := false, narrowed := true }
def FnExactGrowthShareUptoSaid : Prop := fnExactGrowthShareUptoRow.holds Try.pinned (OpenSpec.upto fnExactGrowthShareSpec)

/-- 'laws.FnExactExpectedRuns', WHERE WHAT IT READS IS OF BULK AT MOST 1048576: true; the input reads as it did. -/
def fnExactExpectedRunsUptoRow : OpenClaim := { program := "ytcdianhemnpmcaa", sum := "714ebe7bb09c2fc57a9cc67bbadf462976b55f55d80d30b1dab9bd887912ef0a", func := "loop.example/g00910/laws.FnExactExpectedRuns", spec := "fnExactExpectedRuns", apart := false, narrowed := true }
def FnExactExpectedRunsUptoSaid : Prop := fnExactExpectedRunsUptoRow.holds Try.pinned (OpenSpec.upto fnExactExpectedRunsSpec)

/-- 'laws.FnExactBalancesOf', WHERE WHAT IT READS IS OF BULK AT MOST 1048576: true; the input reads as it did. -/
def fnExactBalancesOfUptoRow : OpenClaim := { program := "ytcdianhemnpmcaa", sum := "714ebe7bb09c2fc57a9cc67bbadf462976b55f55d80d30b1dab9bd887912ef0a", func := "loop.example/g00910/laws.FnExactBalancesOf", spec := "fnExactBalancesOf", apart := false, narrowed := true }
def FnExactBalancesOfUptoSaid : Prop := fnExactBalancesOfUptoRow.holds Try.pinned (OpenSpec.upto fnExactBalancesOfSpec)

/-- 'laws.FnExactGreatestDrop', WHERE WHAT IT READS IS OF BULK AT MOST 1048576: true; the input reads as it did. -/
def fnExactGreatestDropUptoRow : OpenClaim := { program := "ytcdianhemnpmcaa", sum := "714ebe7bb09c2fc57a9cc67bbadf462976b55f55d80d30b1dab9bd887912ef0a", func := "loop.example/g00910/laws.FnExactGreatestDrop", spec := "fnExactGreatestDrop", apart := false, narrowed := true }
def FnExactGreatestDropUptoSaid : Prop := fnExactGreatestDropUptoRow.holds Try.pinned (OpenSpec.upto fnExactGreatestDropSpec)

/-- 'laws.FnExactRuinChance', WHERE WHAT IT READS IS OF BULK AT MOST 1048576: true; the input reads as it did. -/
def fnExactRuinChanceUptoRow : OpenClaim := { program := "ytcdianhemnpmcaa", sum := "714ebe7bb09c2fc57a9cc67bbadf462976b55f55d80d30b1dab9bd887912ef0a", func := "loop.example/g00910/laws.FnExactRuinChance", spec := "fnExactRuinChance", recurses := true, apart := false, narrowed := true }
def FnExactRuinChanceUptoSaid : Prop := fnExactRuinChanceUptoRow.holds Try.pinned (OpenSpec.upto fnExactRuinChanceSpec)

/-- 'laws.FnExactMeanOf', WHERE WHAT IT READS IS OF BULK AT MOST 1048576: true; the input reads as it did. -/
def fnExactMeanOfUptoRow : OpenClaim := { program := "ytcdianhemnpmcaa", sum := "714ebe7bb09c2fc57a9cc67bbadf462976b55f55d80d30b1dab9bd887912ef0a", func := "loop.example/g00910/laws.FnExactMeanOf", spec := "fnExactMeanOf", recurses := true, apart := false, narrowed := true }
def FnExactMeanOfUptoSaid : Prop := fnExactMeanOfUptoRow.holds Try.pinned (OpenSpec.upto fnExactMeanOfSpec)

/-- 'laws.FnExactTargetChance', WHERE WHAT IT READS IS OF BULK AT MOST 1048576: true; the input reads as it did. -/
def fnExactTargetChanceUptoRow : OpenClaim := { program := "ytcdianhemnpmcaa", sum := "714ebe7bb09c2fc57a9cc67bbadf462976b55f55d80d30b1dab9bd887912ef0a", func := "loop.example/g00910/laws.FnExactTargetChance", spec := "fnExactTargetChance", recurses := true, apart := false, narrowed := true }
def FnExactTargetChanceUptoSaid : Prop := fnExactTargetChanceUptoRow.holds Try.pinned (OpenSpec.upto fnExactTargetChanceSpec)

/-- 'laws.FnExactVarianceOf', WHERE WHAT IT READS IS OF BULK AT MOST 1048576: true; the input reads as it did. -/
def fnExactVarianceOfUptoRow : OpenClaim := { program := "ytcdianhemnpmcaa", sum := "714ebe7bb09c2fc57a9cc67bbadf462976b55f55d80d30b1dab9bd887912ef0a", func := "loop.example/g00910/laws.FnExactVarianceOf", spec := "fnExactVarianceOf", recurses := true, apart := false, narrowed := true }
def FnExactVarianceOfUptoSaid : Prop := fnExactVarianceOfUptoRow.holds Try.pinned (OpenSpec.upto fnExactVarianceOfSpec)

/-- 'laws.FnDrops', WHERE WHAT IT READS IS OF BULK AT MOST 1048576: true; the input reads as it did. -/
def fnDropsUptoRow : OpenClaim := { program := "ytcdianhemnpmcaa", sum := "714ebe7bb09c2fc57a9cc67bbadf462976b55f55d80d30b1dab9bd887912ef0a", func := "loop.example/g00910/laws.FnDrops", spec := "fnDrops", apart := false, narrowed := true }
def FnDropsUptoSaid : Prop := fnDropsUptoRow.holds Try.pinned (OpenSpec.upto fnDropsSpec)

/-- 'laws.FnRuins', WHERE WHAT IT READS IS OF BULK AT MOST 1048576: true; the input reads as it did. -/
def fnRuinsUptoRow : OpenClaim := { program := "ytcdianhemnpmcaa", sum := "714ebe7bb09c2fc57a9cc67bbadf462976b55f55d80d30b1dab9bd887912ef0a", func := "loop.example/g00910/laws.FnRuins", spec := "fnRuins", recurses := true, apart := false, narrowed := true }
def FnRuinsUptoSaid : Prop := fnRuinsUptoRow.holds Try.pinned (OpenSpec.upto fnRuinsSpec)

/-- 'laws.FnStatistics', WHERE WHAT IT READS IS OF BULK AT MOST 1048576: true; the input reads as it did. -/
def fnStatisticsUptoRow : OpenClaim := { program := "ytcdianhemnpmcaa", sum := "714ebe7bb09c2fc57a9cc67bbadf462976b55f55d80d30b1dab9bd887912ef0a", func := "loop.example/g00910/laws.FnStatistics", spec := "fnStatistics", recurses := true, apart := false, narrowed := true }
def FnStatisticsUptoSaid : Prop := fnStatisticsUptoRow.holds Try.pinned (OpenSpec.upto fnStatisticsSpec)

end Rows
end Go.Proofs.Ytcdianhemnpmcaa
