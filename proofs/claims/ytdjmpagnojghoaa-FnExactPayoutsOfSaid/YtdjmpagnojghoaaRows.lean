/-
  No cell of these rows narrows 'for every input' (looked for: loops, veiled, ifaces, maps, wideKeys, modest, calm, conditions, laid).
  DERIVED. THE GIVEN ROWS OF THIS SEAT. 10 by the template 'for every input the law returns true; each argument reads behind the call as it read before'; 0 by the template 'total and deterministic' (their statements: YtdjmpagnojghoaaTotals.lean).
  GIVEN WITH THE SEED: the statements are not yours to turn. If you find one false, say at which input.
  Laid BY PROGRAM, IN A SANDBOX (cutbox-rows.mjs): the forced cells as the released guide's own fill.sh prints them over the translation 01e07fce6f26bfce… (all of the seat's roots in one cut). By AI agents, Wed Nov 11 2026. No macro, syntax, notation, axiom, sorry.
-/
import Derived.Test.YtdjmpagnojghoaaChecked
import GoSem.Claim
import GoSem.ClaimJoined
import GoSem.ClaimMapViews
import Derived.JoinedTies
import Derived.KernelRfl
namespace Go.Proofs.Ytdjmpagnojghoaa
/- THE CELL 'sum', in the pinned program and in every row, IS THE sha256 OF THE DUMP (.gsa) THAT YtdjmpagnojghoaaProg.lean LOADS. Nothing in Lean hashes anything: it is a label: what it is worth is what the hold of that sum in a sandbox is worth. -/
noncomputable def Try.pinned : Pinned := { name := "ytdjmpagnojghoaa", sum := "01e07fce6f26bfce6c04710cff87e68813f726c535c767c79b7fed4575526244", checked := Try.checked }
namespace Rows
def none {H : Type} : Left H := { results := [], args := [] }

/-- 'laws.FnExactIsEvent': WHATEVER THE INPUT: true; the input reads as it did. -/
def fnExactIsEventSpec : ChangeSpec := { name := "fnExactIsEvent", fn := fun _ => fun
  | [d] => { results := [.lit (.bool true)], args := [d] }
  | _ => none }
def fnExactIsEventRow : OpenClaim := { program := "ytdjmpagnojghoaa", sum := "01e07fce6f26bfce6c04710cff87e68813f726c535c767c79b7fed4575526244", func := "loop.example/g00910/laws.FnExactIsEvent", spec := "fnExactIsEvent", apart := false }
def FnExactIsEventSaid : Prop := fnExactIsEventRow.holds Try.pinned (OpenSpec.ofChange fnExactIsEventSpec)

/-- ITS FALSE NEIGHBOUR: 'it returns false'. Refute it at one input. -/
def fnExactIsEventWrong : ChangeSpec := { name := "fnExactIsEvent", fn := fun _ => fun
  | [d] => { results := [.lit (.bool false)], args := [d] }
  | _ => none }
def FnExactIsEventWrongFalsely : Prop := fnExactIsEventRow.holds Try.pinned (OpenSpec.ofChange fnExactIsEventWrong)

/-- 'laws.FnExactPrizePool': WHATEVER THE INPUT: true; the input reads as it did. -/
def fnExactPrizePoolSpec : ChangeSpec := { name := "fnExactPrizePool", fn := fun _ => fun
  | [d] => { results := [.lit (.bool true)], args := [d] }
  | _ => none }
def fnExactPrizePoolRow : OpenClaim := { program := "ytdjmpagnojghoaa", sum := "01e07fce6f26bfce6c04710cff87e68813f726c535c767c79b7fed4575526244", func := "loop.example/g00910/laws.FnExactPrizePool", spec := "fnExactPrizePool", apart := false }
def FnExactPrizePoolSaid : Prop := fnExactPrizePoolRow.holds Try.pinned (OpenSpec.ofChange fnExactPrizePoolSpec)

/-- ITS FALSE NEIGHBOUR: 'it returns false'. Refute it at one input. -/
def fnExactPrizePoolWrong : ChangeSpec := { name := "fnExactPrizePool", fn := fun _ => fun
  | [d] => { results := [.lit (.bool false)], args := [d] }
  | _ => none }
def FnExactPrizePoolWrongFalsely : Prop := fnExactPrizePoolRow.holds Try.pinned (OpenSpec.ofChange fnExactPrizePoolWrong)

/-- 'laws.FnExactHouseTake': WHATEVER THE INPUT: true; the input reads as it did. -/
def fnExactHouseTakeSpec : ChangeSpec := { name := "fnExactHouseTake", fn := fun _ => fun
  | [d] => { results := [.lit (.bool true)], args := [d] }
  | _ => none }
def fnExactHouseTakeRow : OpenClaim := { program := "ytdjmpagnojghoaa", sum := "01e07fce6f26bfce6c04710cff87e68813f726c535c767c79b7fed4575526244", func := "loop.example/g00910/laws.FnExactHouseTake", spec := "fnExactHouseTake", apart := false }
def FnExactHouseTakeSaid : Prop := fnExactHouseTakeRow.holds Try.pinned (OpenSpec.ofChange fnExactHouseTakeSpec)

/-- ITS FALSE NEIGHBOUR: 'it returns false'. Refute it at one input. -/
def fnExactHouseTakeWrong : ChangeSpec := { name := "fnExactHouseTake", fn := fun _ => fun
  | [d] => { results := [.lit (.bool false)], args := [d] }
  | _ => none }
def FnExactHouseTakeWrongFalsely : Prop := fnExactHouseTakeRow.holds Try.pinned (OpenSpec.ofChange fnExactHouseTakeWrong)

/-- 'laws.FnExactFlatShares': WHATEVER THE INPUT: true; the input reads as it did. -/
def fnExactFlatSharesSpec : ChangeSpec := { name := "fnExactFlatShares", fn := fun _ => fun
  | [d] => { results := [.lit (.bool true)], args := [d] }
  | _ => none }
def fnExactFlatSharesRow : OpenClaim := { program := "ytdjmpagnojghoaa", sum := "01e07fce6f26bfce6c04710cff87e68813f726c535c767c79b7fed4575526244", func := "loop.example/g00910/laws.FnExactFlatShares", spec := "fnExactFlatShares", apart := false }
def FnExactFlatSharesSaid : Prop := fnExactFlatSharesRow.holds Try.pinned (OpenSpec.ofChange fnExactFlatSharesSpec)

/-- ITS FALSE NEIGHBOUR: 'it returns false'. Refute it at one input. -/
def fnExactFlatSharesWrong : ChangeSpec := { name := "fnExactFlatShares", fn := fun _ => fun
  | [d] => { results := [.lit (.bool false)], args := [d] }
  | _ => none }
def FnExactFlatSharesWrongFalsely : Prop := fnExactFlatSharesRow.holds Try.pinned (OpenSpec.ofChange fnExactFlatSharesWrong)

/-- 'laws.FnExactAreFinishes': WHATEVER THE INPUT: true; the input reads as it did. -/
def fnExactAreFinishesSpec : ChangeSpec := { name := "fnExactAreFinishes", fn := fun _ => fun
  | [d1, d2] => { results := [.lit (.bool true)], args := [d1, d2] }
  | _ => none }
def fnExactAreFinishesRow : OpenClaim := { program := "ytdjmpagnojghoaa", sum := "01e07fce6f26bfce6c04710cff87e68813f726c535c767c79b7fed4575526244", func := "loop.example/g00910/laws.FnExactAreFinishes", spec := "fnExactAreFinishes", apart := false }
def FnExactAreFinishesSaid : Prop := fnExactAreFinishesRow.holds Try.pinned (OpenSpec.ofChange fnExactAreFinishesSpec)

/-- ITS FALSE NEIGHBOUR: 'it returns false'. Refute it at one input. -/
def fnExactAreFinishesWrong : ChangeSpec := { name := "fnExactAreFinishes", fn := fun _ => fun
  | [d1, d2] => { results := [.lit (.bool false)], args := [d1, d2] }
  | _ => none }
def FnExactAreFinishesWrongFalsely : Prop := fnExactAreFinishesRow.holds Try.pinned (OpenSpec.ofChange fnExactAreFinishesWrong)

/-- 'laws.FnExactPayoutsOf': WHATEVER THE INPUT: true; the input reads as it did. -/
def fnExactPayoutsOfSpec : ChangeSpec := { name := "fnExactPayoutsOf", fn := fun _ => fun
  | [d] => { results := [.lit (.bool true)], args := [d] }
  | _ => none }
def fnExactPayoutsOfRow : OpenClaim := { program := "ytdjmpagnojghoaa", sum := "01e07fce6f26bfce6c04710cff87e68813f726c535c767c79b7fed4575526244", func := "loop.example/g00910/laws.FnExactPayoutsOf", spec := "fnExactPayoutsOf", apart := false }
def FnExactPayoutsOfSaid : Prop := fnExactPayoutsOfRow.holds Try.pinned (OpenSpec.ofChange fnExactPayoutsOfSpec)

/-- ITS FALSE NEIGHBOUR: 'it returns false'. Refute it at one input. -/
def fnExactPayoutsOfWrong : ChangeSpec := { name := "fnExactPayoutsOf", fn := fun _ => fun
  | [d] => { results := [.lit (.bool false)], args := [d] }
  | _ => none }
def FnExactPayoutsOfWrongFalsely : Prop := fnExactPayoutsOfRow.holds Try.pinned (OpenSpec.ofChange fnExactPayoutsOfWrong)

/-- 'laws.FnExactFinishesOf': WHATEVER THE INPUT: true; the input reads as it did. -/
def fnExactFinishesOfSpec : ChangeSpec := { name := "fnExactFinishesOf", fn := fun _ => fun
  | [d1, d2] => { results := [.lit (.bool true)], args := [d1, d2] }
  | _ => none }
def fnExactFinishesOfRow : OpenClaim := { program := "ytdjmpagnojghoaa", sum := "01e07fce6f26bfce6c04710cff87e68813f726c535c767c79b7fed4575526244", func := "loop.example/g00910/laws.FnExactFinishesOf", spec := "fnExactFinishesOf", apart := false }
def FnExactFinishesOfSaid : Prop := fnExactFinishesOfRow.holds Try.pinned (OpenSpec.ofChange fnExactFinishesOfSpec)

/-- ITS FALSE NEIGHBOUR: 'it returns false'. Refute it at one input. -/
def fnExactFinishesOfWrong : ChangeSpec := { name := "fnExactFinishesOf", fn := fun _ => fun
  | [d1, d2] => { results := [.lit (.bool false)], args := [d1, d2] }
  | _ => none }
def FnExactFinishesOfWrongFalsely : Prop := fnExactFinishesOfRow.holds Try.pinned (OpenSpec.ofChange fnExactFinishesOfWrong)

/-- 'laws.FnExactPrizesWon': WHATEVER THE INPUT: true; the input reads as it did. -/
def fnExactPrizesWonSpec : ChangeSpec := { name := "fnExactPrizesWon", fn := fun _ => fun
  | [d1, d2] => { results := [.lit (.bool true)], args := [d1, d2] }
  | _ => none }
def fnExactPrizesWonRow : OpenClaim := { program := "ytdjmpagnojghoaa", sum := "01e07fce6f26bfce6c04710cff87e68813f726c535c767c79b7fed4575526244", func := "loop.example/g00910/laws.FnExactPrizesWon", spec := "fnExactPrizesWon", apart := false }
def FnExactPrizesWonSaid : Prop := fnExactPrizesWonRow.holds Try.pinned (OpenSpec.ofChange fnExactPrizesWonSpec)

/-- ITS FALSE NEIGHBOUR: 'it returns false'. Refute it at one input. -/
def fnExactPrizesWonWrong : ChangeSpec := { name := "fnExactPrizesWon", fn := fun _ => fun
  | [d1, d2] => { results := [.lit (.bool false)], args := [d1, d2] }
  | _ => none }
def FnExactPrizesWonWrongFalsely : Prop := fnExactPrizesWonRow.holds Try.pinned (OpenSpec.ofChange fnExactPrizesWonWrong)

/-- 'laws.FnPayouts': WHATEVER THE INPUT: true; the input reads as it did. -/
def fnPayoutsSpec : ChangeSpec := { name := "fnPayouts", fn := fun _ => fun
  | [d] => { results := [.lit (.bool true)], args := [d] }
  | _ => none }
def fnPayoutsRow : OpenClaim := { program := "ytdjmpagnojghoaa", sum := "01e07fce6f26bfce6c04710cff87e68813f726c535c767c79b7fed4575526244", func := "loop.example/g00910/laws.FnPayouts", spec := "fnPayouts", apart := false }
def FnPayoutsSaid : Prop := fnPayoutsRow.holds Try.pinned (OpenSpec.ofChange fnPayoutsSpec)

/-- ITS FALSE NEIGHBOUR: 'it returns false'. Refute it at one input. -/
def fnPayoutsWrong : ChangeSpec := { name := "fnPayouts", fn := fun _ => fun
  | [d] => { results := [.lit (.bool false)], args := [d] }
  | _ => none }
def FnPayoutsWrongFalsely : Prop := fnPayoutsRow.holds Try.pinned (OpenSpec.ofChange fnPayoutsWrong)

/-- 'laws.FnFinishes': WHATEVER THE INPUT: true; the input reads as it did. -/
def fnFinishesSpec : ChangeSpec := { name := "fnFinishes", fn := fun _ => fun
  | [d] => { results := [.lit (.bool true)], args := [d] }
  | _ => none }
def fnFinishesRow : OpenClaim := { program := "ytdjmpagnojghoaa", sum := "01e07fce6f26bfce6c04710cff87e68813f726c535c767c79b7fed4575526244", func := "loop.example/g00910/laws.FnFinishes", spec := "fnFinishes", apart := false }
def FnFinishesSaid : Prop := fnFinishesRow.holds Try.pinned (OpenSpec.ofChange fnFinishesSpec)

/-- ITS FALSE NEIGHBOUR: 'it returns false'. Refute it at one input. -/
def fnFinishesWrong : ChangeSpec := { name := "fnFinishes", fn := fun _ => fun
  | [d] => { results := [.lit (.bool false)], args := [d] }
  | _ => none }
def FnFinishesWrongFalsely : Prop := fnFinishesRow.holds Try.pinned (OpenSpec.ofChange fnFinishesWrong)

/- THE SECOND FORM. 'bulk': how many values and letters a reading holds, each counted each time it is reached (what is shared counts as often as it is met; a slice's spare places count too). A statement '..UptoSaid' is the law's where the arguments, and the package variables that the reading takes, are together of bulk at most 1048576: NARROWER than '..Said'. Prove '..Said' where nothing that the law and all that it calls make is longer than what came in: it says more and counts as full. Else prove '..UptoSaid'. A law counts once. -/
mutual
def uptoBulk {H : Type} : DataW H → Nat
  | .lit (.string bytes) => bytes.length + 1
  | .lit _ => 1
  | .nil => 1
  | .ptr d => uptoBulk d + 1
  | .slice elems spare => uptoBulkAll elems + uptoBulkAll spare + 1
  | .agg parts => uptoBulkAll parts + 1
  | .iface _ d => uptoBulk d + 1
  | .map entries => uptoBulkEntries entries + 1
  | .held _ => 1
def uptoBulkAll {H : Type} : List (DataW H) → Nat
  | [] => 0
  | d :: r => uptoBulk d + uptoBulkAll r
def uptoBulkEntries {H : Type} : List (Lit × DataW H) → Nat
  | [] => 0
  | x :: r => uptoBulkEntry x + uptoBulkEntries r
def uptoBulkEntry {H : Type} : Lit × DataW H → Nat
  | (.string bytes, d) => bytes.length + uptoBulk d + 1
  | (_, d) => uptoBulk d + 1
 end
def uptoSmall : (H : Type) → List (DataW H) → Bool := fun _ ds => decide (uptoBulkAll ds ≤ 1048576)
def OpenSpec.upto (s : _root_.Go.ChangeSpec) : _root_.Go.OpenSpec := { _root_.Go.OpenSpec.ofChange s with cond := some uptoSmall }

/-- 'laws.FnExactIsEvent', WHERE WHAT IT READS IS OF BULK AT MOST 1048576: true; the input reads as it did. -/
def fnExactIsEventUptoRow : OpenClaim := { program := "ytdjmpagnojghoaa", sum := "01e07fce6f26bfce6c04710cff87e68813f726c535c767c79b7fed4575526244", func := "loop.example/g00910/laws.FnExactIsEvent", spec := "fnExactIsEvent", apart := false, narrowed := true }
def FnExactIsEventUptoSaid : Prop := fnExactIsEventUptoRow.holds Try.pinned (OpenSpec.upto fnExactIsEventSpec)

/-- 'laws.FnExactPrizePool', WHERE WHAT IT READS IS OF BULK AT MOST 1048576: true; the input reads as it did. -/
def fnExactPrizePoolUptoRow : OpenClaim := { program := "ytdjmpagnojghoaa", sum := "01e07fce6f26bfce6c04710cff87e68813f726c535c767c79b7fed4575526244", func := "loop.example/g00910/laws.FnExactPrizePool", spec := "fnExactPrizePool", apart := false, narrowed := true }
def FnExactPrizePoolUptoSaid : Prop := fnExactPrizePoolUptoRow.holds Try.pinned (OpenSpec.upto fnExactPrizePoolSpec)

/-- 'laws.FnExactHouseTake', WHERE WHAT IT READS IS OF BULK AT MOST 1048576: true; the input reads as it did. -/
def fnExactHouseTakeUptoRow : OpenClaim := { program := "ytdjmpagnojghoaa", sum := "01e07fce6f26bfce6c04710cff87e68813f726c535c767c79b7fed4575526244", func := "loop.example/g00910/laws.FnExactHouseTake", spec := "fnExactHouseTake", apart := false, narrowed := true }
def FnExactHouseTakeUptoSaid : Prop := fnExactHouseTakeUptoRow.holds Try.pinned (OpenSpec.upto fnExactHouseTakeSpec)

/-- 'laws.FnExactFlatShares', WHERE WHAT IT READS IS OF BULK AT MOST 1048576: true; the input reads as it did. -/
def fnExactFlatSharesUptoRow : OpenClaim := { program := "ytdjmpagnojghoaa", sum := "01e07fce6f26bfce6c04710cff87e68813f726c535c767c79b7fed4575526244", func := "loop.example/g00910/laws.FnExactFlatShares", spec := "fnExactFlatShares", apart := false, narrowed := true }
def FnExactFlatSharesUptoSaid : Prop := fnExactFlatSharesUptoRow.holds Try.pinned (OpenSpec.upto fnExactFlatSharesSpec)

/-- 'laws.FnExactAreFinishes', WHERE WHAT IT READS IS OF BULK AT MOST 1048576: true; the input reads as it did. -/
def fnExactAreFinishesUptoRow : OpenClaim := { program := "ytdjmpagnojghoaa", sum := "01e07fce6f26bfce6c04710cff87e68813f726c535c767c79b7fed4575526244", func := "loop.example/g00910/laws.FnExactAreFinishes", spec := "fnExactAreFinishes", apart := false, narrowed := true }
def FnExactAreFinishesUptoSaid : Prop := fnExactAreFinishesUptoRow.holds Try.pinned (OpenSpec.upto fnExactAreFinishesSpec)

/-- 'laws.FnExactPayoutsOf', WHERE WHAT IT READS IS OF BULK AT MOST 1048576: true; the input reads as it did. -/
def fnExactPayoutsOfUptoRow : OpenClaim := { program := "ytdjmpagnojghoaa", sum := "01e07fce6f26bfce6c04710cff87e68813f726c535c767c79b7fed4575526244", func := "loop.example/g00910/laws.FnExactPayoutsOf", spec := "fnExactPayoutsOf", apart := false, narrowed := true }
def FnExactPayoutsOfUptoSaid : Prop := fnExactPayoutsOfUptoRow.holds Try.pinned (OpenSpec.upto fnExactPayoutsOfSpec)

/-- 'laws.FnExactFinishesOf', WHERE WHAT IT READS IS OF BULK AT MOST 1048576: true; the input reads as it did. -/
def fnExactFinishesOfUptoRow : OpenClaim := { program := "ytdjmpagnojghoaa", sum := "01e07fce6f26bfce6c04710cff87e68813f726c535c767c79b7fed4575526244", func := "loop.example/g00910/laws.FnExactFinishesOf", spec := "fnExactFinishesOf", apart := false, narrowed := true }
def FnExactFinishesOfUptoSaid : Prop := fnExactFinishesOfUptoRow.holds Try.pinned (OpenSpec.upto fnExactFinishesOfSpec)

/-- 'laws.FnExactPrizesWon', WHERE WHAT IT READS IS OF BULK AT MOST 1048576: true; the input reads as it did. -/
def fnExactPrizesWonUptoRow : OpenClaim := { program := "ytdjmpagnojghoaa", sum := "01e07fce6f26bfce6c04710cff87e68813f726c535c767c79b7fed4575526244", func := "loop.example/g00910/laws.FnExactPrizesWon", spec := "fnExactPrizesWon", apart := false, narrowed := true }
def FnExactPrizesWonUptoSaid : Prop := fnExactPrizesWonUptoRow.holds Try.pinned (OpenSpec.upto fnExactPrizesWonSpec)

/-- 'laws.FnPayouts', WHERE WHAT IT READS IS OF BULK AT MOST 1048576: true; the input reads as it did. -/
def fnPayoutsUptoRow : OpenClaim := { program := "ytdjmpagnojghoaa", sum := "01e07fce6f26bfce6c04710cff87e68813f726c535c767c79b7fed4575526244", func := "loop.example/g00910/laws.FnPayouts", spec := "fnPayouts", apart := false, narrowed := true }
def FnPayoutsUptoSaid : Prop := fnPayoutsUptoRow.holds Try.pinned (OpenSpec.upto fnPayoutsSpec)

/-- 'laws.FnFinishes', WHERE WHAT IT READS IS OF BULK AT MOST 1048576: true; the input reads as it did. -/
def fnFinishesUptoRow : OpenClaim := { program := "ytdjmpagnojghoaa", sum := "01e07fce6f26bfce6c04710cff87e68813f726c535c767c79b7fed4575526244", func := "loop.example/g00910/laws.FnFinishes", spec := "fnFinishes", apart := false, narrowed := true }
def FnFinishesUptoSaid : Prop := fnFinishesUptoRow.holds Try.pinned (OpenSpec.upto fnFinishesSpec)

end Rows
end Go.Proofs.Ytdjmpagnojghoaa
