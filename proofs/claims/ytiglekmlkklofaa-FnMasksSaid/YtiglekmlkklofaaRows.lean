/-
  No cell of these rows narrows 'for every input' (looked for: loops, veiled, ifaces, maps, wideKeys, modest, calm, conditions, laid).
  DERIVED. THE GIVEN ROWS OF THIS SEAT. 14 by the template 'for every input the law returns true; each argument reads behind the call as it read before'; 0 by the template 'total and deterministic' (their statements: YtiglekmlkklofaaTotals.lean).
  GIVEN WITH THE SEED: the statements are not yours to turn. If you find one false, say at which input.
  Laid BY PROGRAM, IN A SANDBOX (cutbox-rows.mjs): the forced cells as the released guide's own fill.sh prints them over the translation 929bc5744dafa349… (all of the seat's roots in one cut). By AI agents, Wed Nov 11 2026. No macro, syntax, notation, axiom, sorry.
-/
import Derived.Test.YtiglekmlkklofaaChecked
import GoSem.Claim
import GoSem.ClaimJoined
import GoSem.ClaimMapViews
import Derived.JoinedTies
import Derived.KernelRfl
namespace Go.Proofs.Ytiglekmlkklofaa
/- THE CELL 'sum', in the pinned program and in every row, IS THE sha256 OF THE DUMP (.gsa) THAT YtiglekmlkklofaaProg.lean LOADS. Nothing in Lean hashes anything: it is a label: what it is worth is what the hold of that sum in a sandbox is worth. -/
noncomputable def Try.pinned : Pinned := { name := "ytiglekmlkklofaa", sum := "929bc5744dafa349d6c61bcec30fea36520853d4590e97f23d5520c544ecdbb1", checked := Try.checked }
namespace Rows
def none {H : Type} : Left H := { results := [], args := [] }

/-- 'laws.FnExactCodeOf': WHATEVER THE INPUT: true; the input reads as it did. -/
def fnExactCodeOfSpec : ChangeSpec := { name := "fnExactCodeOf", fn := fun _ => fun
  | [d] => { results := [.lit (.bool true)], args := [d] }
  | _ => none }
def fnExactCodeOfRow : OpenClaim := { program := "ytiglekmlkklofaa", sum := "929bc5744dafa349d6c61bcec30fea36520853d4590e97f23d5520c544ecdbb1", func := "loop.example/g00910/laws.FnExactCodeOf", spec := "fnExactCodeOf", apart := false }
def FnExactCodeOfSaid : Prop := fnExactCodeOfRow.holds Try.pinned (OpenSpec.ofChange fnExactCodeOfSpec)

/-- ITS FALSE NEIGHBOUR: 'it returns false'. Refute it at one input. -/
def fnExactCodeOfWrong : ChangeSpec := { name := "fnExactCodeOf", fn := fun _ => fun
  | [d] => { results := [.lit (.bool false)], args := [d] }
  | _ => none }
def FnExactCodeOfWrongFalsely : Prop := fnExactCodeOfRow.holds Try.pinned (OpenSpec.ofChange fnExactCodeOfWrong)

/-- 'laws.FnExactIsSquare': WHATEVER THE INPUT: true; the input reads as it did. -/
def fnExactIsSquareSpec : ChangeSpec := { name := "fnExactIsSquare", fn := fun _ => fun
  | [d] => { results := [.lit (.bool true)], args := [d] }
  | _ => none }
def fnExactIsSquareRow : OpenClaim := { program := "ytiglekmlkklofaa", sum := "929bc5744dafa349d6c61bcec30fea36520853d4590e97f23d5520c544ecdbb1", func := "loop.example/g00910/laws.FnExactIsSquare", spec := "fnExactIsSquare", apart := false }
def FnExactIsSquareSaid : Prop := fnExactIsSquareRow.holds Try.pinned (OpenSpec.ofChange fnExactIsSquareSpec)

/-- ITS FALSE NEIGHBOUR: 'it returns false'. Refute it at one input. -/
def fnExactIsSquareWrong : ChangeSpec := { name := "fnExactIsSquare", fn := fun _ => fun
  | [d] => { results := [.lit (.bool false)], args := [d] }
  | _ => none }
def FnExactIsSquareWrongFalsely : Prop := fnExactIsSquareRow.holds Try.pinned (OpenSpec.ofChange fnExactIsSquareWrong)

/-- 'laws.FnExactInverseKey': WHATEVER THE INPUT: true; the input reads as it did. -/
def fnExactInverseKeySpec : ChangeSpec := { name := "fnExactInverseKey", fn := fun _ => fun
  | [d] => { results := [.lit (.bool true)], args := [d] }
  | _ => none }
def fnExactInverseKeyRow : OpenClaim := { program := "ytiglekmlkklofaa", sum := "929bc5744dafa349d6c61bcec30fea36520853d4590e97f23d5520c544ecdbb1", func := "loop.example/g00910/laws.FnExactInverseKey", spec := "fnExactInverseKey", apart := false }
def FnExactInverseKeySaid : Prop := fnExactInverseKeyRow.holds Try.pinned (OpenSpec.ofChange fnExactInverseKeySpec)

/-- ITS FALSE NEIGHBOUR: 'it returns false'. Refute it at one input. -/
def fnExactInverseKeyWrong : ChangeSpec := { name := "fnExactInverseKey", fn := fun _ => fun
  | [d] => { results := [.lit (.bool false)], args := [d] }
  | _ => none }
def FnExactInverseKeyWrongFalsely : Prop := fnExactInverseKeyRow.holds Try.pinned (OpenSpec.ofChange fnExactInverseKeyWrong)

/-- 'laws.FnExactCardOfCode': WHATEVER THE INPUT: true; the input reads as it did. -/
def fnExactCardOfCodeSpec : ChangeSpec := { name := "fnExactCardOfCode", fn := fun _ => fun
  | [d] => { results := [.lit (.bool true)], args := [d] }
  | _ => none }
def fnExactCardOfCodeRow : OpenClaim := { program := "ytiglekmlkklofaa", sum := "929bc5744dafa349d6c61bcec30fea36520853d4590e97f23d5520c544ecdbb1", func := "loop.example/g00910/laws.FnExactCardOfCode", spec := "fnExactCardOfCode", apart := false }
def FnExactCardOfCodeSaid : Prop := fnExactCardOfCodeRow.holds Try.pinned (OpenSpec.ofChange fnExactCardOfCodeSpec)

/-- ITS FALSE NEIGHBOUR: 'it returns false'. Refute it at one input. -/
def fnExactCardOfCodeWrong : ChangeSpec := { name := "fnExactCardOfCode", fn := fun _ => fun
  | [d] => { results := [.lit (.bool false)], args := [d] }
  | _ => none }
def FnExactCardOfCodeWrongFalsely : Prop := fnExactCardOfCodeRow.holds Try.pinned (OpenSpec.ofChange fnExactCardOfCodeWrong)

/-- 'laws.FnExactCommitTo': WHATEVER THE INPUT: true; the input reads as it did. -/
def fnExactCommitToSpec : ChangeSpec := { name := "fnExactCommitTo", fn := fun _ => fun
  | [d1, d2] => { results := [.lit (.bool true)], args := [d1, d2] }
  | _ => none }
def fnExactCommitToRow : OpenClaim := { program := "ytiglekmlkklofaa", sum := "929bc5744dafa349d6c61bcec30fea36520853d4590e97f23d5520c544ecdbb1", func := "loop.example/g00910/laws.FnExactCommitTo", spec := "fnExactCommitTo", apart := false }
def FnExactCommitToSaid : Prop := fnExactCommitToRow.holds Try.pinned (OpenSpec.ofChange fnExactCommitToSpec)

/-- ITS FALSE NEIGHBOUR: 'it returns false'. Refute it at one input. -/
def fnExactCommitToWrong : ChangeSpec := { name := "fnExactCommitTo", fn := fun _ => fun
  | [d1, d2] => { results := [.lit (.bool false)], args := [d1, d2] }
  | _ => none }
def FnExactCommitToWrongFalsely : Prop := fnExactCommitToRow.holds Try.pinned (OpenSpec.ofChange fnExactCommitToWrong)

/-- 'laws.FnExactPowerOf': WHATEVER THE INPUT: true; the input reads as it did. -/
def fnExactPowerOfSpec : ChangeSpec := { name := "fnExactPowerOf", fn := fun _ => fun
  | [d1, d2] => { results := [.lit (.bool true)], args := [d1, d2] }
  | _ => none }
def fnExactPowerOfRow : OpenClaim := { program := "ytiglekmlkklofaa", sum := "929bc5744dafa349d6c61bcec30fea36520853d4590e97f23d5520c544ecdbb1", func := "loop.example/g00910/laws.FnExactPowerOf", spec := "fnExactPowerOf", apart := false }
def FnExactPowerOfSaid : Prop := fnExactPowerOfRow.holds Try.pinned (OpenSpec.ofChange fnExactPowerOfSpec)

/-- ITS FALSE NEIGHBOUR: 'it returns false'. Refute it at one input. -/
def fnExactPowerOfWrong : ChangeSpec := { name := "fnExactPowerOf", fn := fun _ => fun
  | [d1, d2] => { results := [.lit (.bool false)], args := [d1, d2] }
  | _ => none }
def FnExactPowerOfWrongFalsely : Prop := fnExactPowerOfRow.holds Try.pinned (OpenSpec.ofChange fnExactPowerOfWrong)

/-- 'laws.FnExactOpenElement': WHATEVER THE INPUT: true; the input reads as it did. -/
def fnExactOpenElementSpec : ChangeSpec := { name := "fnExactOpenElement", fn := fun _ => fun
  | [d1, d2, d3] => { results := [.lit (.bool true)], args := [d1, d2, d3] }
  | _ => none }
def fnExactOpenElementRow : OpenClaim := { program := "ytiglekmlkklofaa", sum := "929bc5744dafa349d6c61bcec30fea36520853d4590e97f23d5520c544ecdbb1", func := "loop.example/g00910/laws.FnExactOpenElement", spec := "fnExactOpenElement", apart := false }
def FnExactOpenElementSaid : Prop := fnExactOpenElementRow.holds Try.pinned (OpenSpec.ofChange fnExactOpenElementSpec)

/-- ITS FALSE NEIGHBOUR: 'it returns false'. Refute it at one input. -/
def fnExactOpenElementWrong : ChangeSpec := { name := "fnExactOpenElement", fn := fun _ => fun
  | [d1, d2, d3] => { results := [.lit (.bool false)], args := [d1, d2, d3] }
  | _ => none }
def FnExactOpenElementWrongFalsely : Prop := fnExactOpenElementRow.holds Try.pinned (OpenSpec.ofChange fnExactOpenElementWrong)

/-- 'laws.FnExactMaskList': WHATEVER THE INPUT: true; the input reads as it did. -/
def fnExactMaskListSpec : ChangeSpec := { name := "fnExactMaskList", fn := fun _ => fun
  | [d1, d2] => { results := [.lit (.bool true)], args := [d1, d2] }
  | _ => none }
def fnExactMaskListRow : OpenClaim := { program := "ytiglekmlkklofaa", sum := "929bc5744dafa349d6c61bcec30fea36520853d4590e97f23d5520c544ecdbb1", func := "loop.example/g00910/laws.FnExactMaskList", spec := "fnExactMaskList", unfollowed := true, recurses := true, apart := false }
def FnExactMaskListSaid : Prop := fnExactMaskListRow.holds Try.pinned (OpenSpec.ofChange fnExactMaskListSpec)

/-- ITS FALSE NEIGHBOUR: 'it returns false'. Refute it at one input. -/
def fnExactMaskListWrong : ChangeSpec := { name := "fnExactMaskList", fn := fun _ => fun
  | [d1, d2] => { results := [.lit (.bool false)], args := [d1, d2] }
  | _ => none }
def FnExactMaskListWrongFalsely : Prop := fnExactMaskListRow.holds Try.pinned (OpenSpec.ofChange fnExactMaskListWrong)

/-- 'laws.FnExactFirstPass': WHATEVER THE INPUT: true; the input reads as it did. -/
def fnExactFirstPassSpec : ChangeSpec := { name := "fnExactFirstPass", fn := fun _ => fun
  | [d1, d2] => { results := [.lit (.bool true)], args := [d1, d2] }
  | _ => none }
def fnExactFirstPassRow : OpenClaim := { program := "ytiglekmlkklofaa", sum := "929bc5744dafa349d6c61bcec30fea36520853d4590e97f23d5520c544ecdbb1", func := "loop.example/g00910/laws.FnExactFirstPass", spec := "fnExactFirstPass", apart := false }
def FnExactFirstPassSaid : Prop := fnExactFirstPassRow.holds Try.pinned (OpenSpec.ofChange fnExactFirstPassSpec)

/-- ITS FALSE NEIGHBOUR: 'it returns false'. Refute it at one input. -/
def fnExactFirstPassWrong : ChangeSpec := { name := "fnExactFirstPass", fn := fun _ => fun
  | [d1, d2] => { results := [.lit (.bool false)], args := [d1, d2] }
  | _ => none }
def FnExactFirstPassWrongFalsely : Prop := fnExactFirstPassRow.holds Try.pinned (OpenSpec.ofChange fnExactFirstPassWrong)

/-- 'laws.FnExactAuditDeal': WHATEVER THE INPUT: true; the input reads as it did. -/
def fnExactAuditDealSpec : ChangeSpec := { name := "fnExactAuditDeal", fn := fun _ => fun
  | [d1, d2, d3, d4, d5] => { results := [.lit (.bool true)], args := [d1, d2, d3, d4, d5] }
  | _ => none }
def fnExactAuditDealRow : OpenClaim := { program := "ytiglekmlkklofaa", sum := "929bc5744dafa349d6c61bcec30fea36520853d4590e97f23d5520c544ecdbb1", func := "loop.example/g00910/laws.FnExactAuditDeal", spec := "fnExactAuditDeal", apart := false }
def FnExactAuditDealSaid : Prop := fnExactAuditDealRow.holds Try.pinned (OpenSpec.ofChange fnExactAuditDealSpec)

/-- ITS FALSE NEIGHBOUR: 'it returns false'. Refute it at one input. -/
def fnExactAuditDealWrong : ChangeSpec := { name := "fnExactAuditDeal", fn := fun _ => fun
  | [d1, d2, d3, d4, d5] => { results := [.lit (.bool false)], args := [d1, d2, d3, d4, d5] }
  | _ => none }
def FnExactAuditDealWrongFalsely : Prop := fnExactAuditDealRow.holds Try.pinned (OpenSpec.ofChange fnExactAuditDealWrong)

/-- 'laws.FnExactSecondPass': WHATEVER THE INPUT: true; the input reads as it did. -/
def fnExactSecondPassSpec : ChangeSpec := { name := "fnExactSecondPass", fn := fun _ => fun
  | [d1, d2, d3] => { results := [.lit (.bool true)], args := [d1, d2, d3] }
  | _ => none }
def fnExactSecondPassRow : OpenClaim := { program := "ytiglekmlkklofaa", sum := "929bc5744dafa349d6c61bcec30fea36520853d4590e97f23d5520c544ecdbb1", func := "loop.example/g00910/laws.FnExactSecondPass", spec := "fnExactSecondPass", unfollowed := true, recurses := true, apart := false }
def FnExactSecondPassSaid : Prop := fnExactSecondPassRow.holds Try.pinned (OpenSpec.ofChange fnExactSecondPassSpec)

/-- ITS FALSE NEIGHBOUR: 'it returns false'. Refute it at one input. -/
def fnExactSecondPassWrong : ChangeSpec := { name := "fnExactSecondPass", fn := fun _ => fun
  | [d1, d2, d3] => { results := [.lit (.bool false)], args := [d1, d2, d3] }
  | _ => none }
def FnExactSecondPassWrongFalsely : Prop := fnExactSecondPassRow.holds Try.pinned (OpenSpec.ofChange fnExactSecondPassWrong)

/-- 'laws.FnCodes': WHATEVER THE INPUT: true; the input reads as it did. -/
def fnCodesSpec : ChangeSpec := { name := "fnCodes", fn := fun _ => fun
  | [d] => { results := [.lit (.bool true)], args := [d] }
  | _ => none }
def fnCodesRow : OpenClaim := { program := "ytiglekmlkklofaa", sum := "929bc5744dafa349d6c61bcec30fea36520853d4590e97f23d5520c544ecdbb1", func := "loop.example/g00910/laws.FnCodes", spec := "fnCodes", apart := false }
def FnCodesSaid : Prop := fnCodesRow.holds Try.pinned (OpenSpec.ofChange fnCodesSpec)

/-- ITS FALSE NEIGHBOUR: 'it returns false'. Refute it at one input. -/
def fnCodesWrong : ChangeSpec := { name := "fnCodes", fn := fun _ => fun
  | [d] => { results := [.lit (.bool false)], args := [d] }
  | _ => none }
def FnCodesWrongFalsely : Prop := fnCodesRow.holds Try.pinned (OpenSpec.ofChange fnCodesWrong)

/-- 'laws.FnMasks': WHATEVER THE INPUT: true; the input reads as it did. -/
def fnMasksSpec : ChangeSpec := { name := "fnMasks", fn := fun _ => fun
  | [d] => { results := [.lit (.bool true)], args := [d] }
  | _ => none }
def fnMasksRow : OpenClaim := { program := "ytiglekmlkklofaa", sum := "929bc5744dafa349d6c61bcec30fea36520853d4590e97f23d5520c544ecdbb1", func := "loop.example/g00910/laws.FnMasks", spec := "fnMasks", unfollowed := true, recurses := true, apart := false }
def FnMasksSaid : Prop := fnMasksRow.holds Try.pinned (OpenSpec.ofChange fnMasksSpec)

/-- ITS FALSE NEIGHBOUR: 'it returns false'. Refute it at one input. -/
def fnMasksWrong : ChangeSpec := { name := "fnMasks", fn := fun _ => fun
  | [d] => { results := [.lit (.bool false)], args := [d] }
  | _ => none }
def FnMasksWrongFalsely : Prop := fnMasksRow.holds Try.pinned (OpenSpec.ofChange fnMasksWrong)

/-- 'laws.FnPasses': WHATEVER THE INPUT: true; the input reads as it did. -/
def fnPassesSpec : ChangeSpec := { name := "fnPasses", fn := fun _ => fun
  | [d] => { results := [.lit (.bool true)], args := [d] }
  | _ => none }
def fnPassesRow : OpenClaim := { program := "ytiglekmlkklofaa", sum := "929bc5744dafa349d6c61bcec30fea36520853d4590e97f23d5520c544ecdbb1", func := "loop.example/g00910/laws.FnPasses", spec := "fnPasses", unfollowed := true, recurses := true, apart := false }
def FnPassesSaid : Prop := fnPassesRow.holds Try.pinned (OpenSpec.ofChange fnPassesSpec)

/-- ITS FALSE NEIGHBOUR: 'it returns false'. Refute it at one input. -/
def fnPassesWrong : ChangeSpec := { name := "fnPasses", fn := fun _ => fun
  | [d] => { results := [.lit (.bool false)], args := [d] }
  | _ => none }
def FnPassesWrongFalsely : Prop := fnPassesRow.holds Try.pinned (OpenSpec.ofChange fnPassesWrong)

/- THE SECOND FORM. 'bulk': how many values and letters a reading holds, each counted each time it is reached (what is shared counts as often as it is met; a slice's spare places count too). A statement '..UptoSaid' is the law's where the arguments, and the package variables that the reading takes, are together of bulk at most 1048576: NARROWER than '..Said'. Prove '..Said' where nothing that the law and all that it calls make is longer than what came in: it says more and counts as full. Else prove '..UptoSaid'. A law counts once. -/
mutual
def uptoBulk {H : Type} : DataW H → Nat
  | .lit (.string bytes) => bytes.length + 1
  | .lit _ => 1
  | .nil => 1
  | .ptr d => uptoBulk d + 1
  | .slice elems spare => uptoBulkAll elems + uptoBulkAll spare + 1
  | .agg parts => uptoBulkAll parts + 1
  | .iface _ d => uptoBulk d + 1
  | .map entries => uptoBulkEntries entries + 1
  | .held _ => 1
def uptoBulkAll {H : Type} : List (DataW H) → Nat
  | [] => 0
  | d :: r => uptoBulk d + uptoBulkAll r
def uptoBulkEntries {H : Type} : List (Lit × DataW H) → Nat
  | [] => 0
  | x :: r => uptoBulkEntry x + uptoBulkEntries r
def uptoBulkEntry {H : Type} : Lit × DataW H → Nat
  | (.string bytes, d) => bytes.length + uptoBulk d + 1
  | (_, d) => uptoBulk d + 1
 end
def uptoSmall : (H : Type) → List (DataW H) → Bool := fun _ ds => decide (uptoBulkAll ds ≤ 1048576)
def OpenSpec.upto (s : _root_.Go.ChangeSpec) : _root_.Go.OpenSpec := { _root_.Go.OpenSpec.ofChange s with cond := some uptoSmall }

/-- 'laws.FnExactCodeOf', WHERE WHAT IT READS IS OF BULK AT MOST 1048576: true; the input reads as it did. -/
def fnExactCodeOfUptoRow : OpenClaim := { program := "ytiglekmlkklofaa", sum := "929bc5744dafa349d6c61bcec30fea36520853d4590e97f23d5520c544ecdbb1", func := "loop.example/g00910/laws.FnExactCodeOf", spec := "fnExactCodeOf", apart := false, narrowed := true }
def FnExactCodeOfUptoSaid : Prop := fnExactCodeOfUptoRow.holds Try.pinned (OpenSpec.upto fnExactCodeOfSpec)

/-- 'laws.FnExactIsSquare', WHERE WHAT IT READS IS OF BULK AT MOST 1048576: true; the input reads as it did. -/
def fnExactIsSquareUptoRow : OpenClaim := { program := "ytiglekmlkklofaa", sum := "929bc5744dafa349d6c61bcec30fea36520853d4590e97f23d5520c544ecdbb1", func := "loop.example/g00910/laws.FnExactIsSquare", spec := "fnExactIsSquare", apart := false, narrowed := true }
def FnExactIsSquareUptoSaid : Prop := fnExactIsSquareUptoRow.holds Try.pinned (OpenSpec.upto fnExactIsSquareSpec)

/-- 'laws.FnExactInverseKey', WHERE WHAT IT READS IS OF BULK AT MOST 1048576: true; the input reads as it did. -/
def fnExactInverseKeyUptoRow : OpenClaim := { program := "ytiglekmlkklofaa", sum := "929bc5744dafa349d6c61bcec30fea36520853d4590e97f23d5520c544ecdbb1", func := "loop.example/g00910/laws.FnExactInverseKey", spec := "fnExactInverseKey", apart := false, narrowed := true }
def FnExactInverseKeyUptoSaid : Prop := fnExactInverseKeyUptoRow.holds Try.pinned (OpenSpec.upto fnExactInverseKeySpec)

/-- 'laws.FnExactCardOfCode', WHERE WHAT IT READS IS OF BULK AT MOST 1048576: true; the input reads as it did. -/
def fnExactCardOfCodeUptoRow : OpenClaim := { program := "ytiglekmlkklofaa", sum := "929bc5744dafa349d6c61bcec30fea36520853d4590e97f23d5520c544ecdbb1", func := "loop.example/g00910/laws.FnExactCardOfCode", spec := "fnExactCardOfCode", apart := false, narrowed := true }
def FnExactCardOfCodeUptoSaid : Prop := fnExactCardOfCodeUptoRow.holds Try.pinned (OpenSpec.upto fnExactCardOfCodeSpec)

/-- 'laws.FnExactCommitTo', WHERE WHAT IT READS IS OF BULK AT MOST 1048576: true; the input reads as it did. -/
def fnExactCommitToUptoRow : OpenClaim := { program := "ytiglekmlkklofaa", sum := "929bc5744dafa349d6c61bcec30fea36520853d4590e97f23d5520c544ecdbb1", func := "loop.example/g00910/laws.FnExactCommitTo", spec := "fnExactCommitTo", apart := false, narrowed := true }
def FnExactCommitToUptoSaid : Prop := fnExactCommitToUptoRow.holds Try.pinned (OpenSpec.upto fnExactCommitToSpec)

/-- 'laws.FnExactPowerOf', WHERE WHAT IT READS IS OF BULK AT MOST 1048576: true; the input reads as it did. -/
def fnExactPowerOfUptoRow : OpenClaim := { program := "ytiglekmlkklofaa", sum := "929bc5744dafa349d6c61bcec30fea36520853d4590e97f23d5520c544ecdbb1", func := "loop.example/g00910/laws.FnExactPowerOf", spec := "fnExactPowerOf", apart := false, narrowed := true }
def FnExactPowerOfUptoSaid : Prop := fnExactPowerOfUptoRow.holds Try.pinned (OpenSpec.upto fnExactPowerOfSpec)

/-- 'laws.FnExactOpenElement', WHERE WHAT IT READS IS OF BULK AT MOST 1048576: true; the input reads as it did. -/
def fnExactOpenElementUptoRow : OpenClaim := { program := "ytiglekmlkklofaa", sum := "929bc5744dafa349d6c61bcec30fea36520853d4590e97f23d5520c544ecdbb1", func := "loop.example/g00910/laws.FnExactOpenElement", spec := "fnExactOpenElement", apart := false, narrowed := true }
def FnExactOpenElementUptoSaid : Prop := fnExactOpenElementUptoRow.holds Try.pinned (OpenSpec.upto fnExactOpenElementSpec)

/-- 'laws.FnExactMaskList', WHERE WHAT IT READS IS OF BULK AT MOST 1048576: true; the input reads as it did. -/
def fnExactMaskListUptoRow : OpenClaim := { program := "ytiglekmlkklofaa", sum := "929bc5744dafa349d6c61bcec30fea36520853d4590e97f23d5520c544ecdbb1", func := "loop.example/g00910/laws.FnExactMaskList", spec := "fnExactMaskList", unfollowed := true, recurses := true, apart := false, narrowed := true }
def FnExactMaskListUptoSaid : Prop := fnExactMaskListUptoRow.holds Try.pinned (OpenSpec.upto fnExactMaskListSpec)

/-- 'laws.FnExactFirstPass', WHERE WHAT IT READS IS OF BULK AT MOST 1048576: true; the input reads as it did. -/
def fnExactFirstPassUptoRow : OpenClaim := { program := "ytiglekmlkklofaa", sum := "929bc5744dafa349d6c61bcec30fea36520853d4590e97f23d5520c544ecdbb1", func := "loop.example/g00910/laws.FnExactFirstPass", spec := "fnExactFirstPass", apart := false, narrowed := true }
def FnExactFirstPassUptoSaid : Prop := fnExactFirstPassUptoRow.holds Try.pinned (OpenSpec.upto fnExactFirstPassSpec)

/-- 'laws.FnExactAuditDeal', WHERE WHAT IT READS IS OF BULK AT MOST 1048576: true; the input reads as it did. -/
def fnExactAuditDealUptoRow : OpenClaim := { program := "ytiglekmlkklofaa", sum := "929bc5744dafa349d6c61bcec30fea36520853d4590e97f23d5520c544ecdbb1", func := "loop.example/g00910/laws.FnExactAuditDeal", spec := "fnExactAuditDeal", apart := false, narrowed := true }
def FnExactAuditDealUptoSaid : Prop := fnExactAuditDealUptoRow.holds Try.pinned (OpenSpec.upto fnExactAuditDealSpec)

/-- 'laws.FnExactSecondPass', WHERE WHAT IT READS IS OF BULK AT MOST 1048576: true; the input reads as it did. -/
def fnExactSecondPassUptoRow : OpenClaim := { program := "ytiglekmlkklofaa", sum := "929bc5744dafa349d6c61bcec30fea36520853d4590e97f23d5520c544ecdbb1", func := "loop.example/g00910/laws.FnExactSecondPass", spec := "fnExactSecondPass", unfollowed := true, recurses := true, apart := false, narrowed := true }
def FnExactSecondPassUptoSaid : Prop := fnExactSecondPassUptoRow.holds Try.pinned (OpenSpec.upto fnExactSecondPassSpec)

/-- 'laws.FnCodes', WHERE WHAT IT READS IS OF BULK AT MOST 1048576: true; the input reads as it did. -/
def fnCodesUptoRow : OpenClaim := { program := "ytiglekmlkklofaa", sum := "929bc5744dafa349d6c61bcec30fea36520853d4590e97f23d5520c544ecdbb1", func := "loop.example/g00910/laws.FnCodes", spec := "fnCodes", apart := false, narrowed := true }
def FnCodesUptoSaid : Prop := fnCodesUptoRow.holds Try.pinned (OpenSpec.upto fnCodesSpec)

/-- 'laws.FnMasks', WHERE WHAT IT READS IS OF BULK AT MOST 1048576: true; the input reads as it did. -/
def fnMasksUptoRow : OpenClaim := { program := "ytiglekmlkklofaa", sum := "929bc5744dafa349d6c61bcec30fea36520853d4590e97f23d5520c544ecdbb1", func := "loop.example/g00910/laws.FnMasks", spec := "fnMasks", unfollowed := true, recurses := true, apart := false, narrowed := true }
def FnMasksUptoSaid : Prop := fnMasksUptoRow.holds Try.pinned (OpenSpec.upto fnMasksSpec)

/-- 'laws.FnPasses', WHERE WHAT IT READS IS OF BULK AT MOST 1048576: true; the input reads as it did. -/
def fnPassesUptoRow : OpenClaim := { program := "ytiglekmlkklofaa", sum := "929bc5744dafa349d6c61bcec30fea36520853d4590e97f23d5520c544ecdbb1", func := "loop.example/g00910/laws.FnPasses", spec := "fnPasses", unfollowed := true, recurses := true, apart := false, narrowed := true }
def FnPassesUptoSaid : Prop := fnPassesUptoRow.holds Try.pinned (OpenSpec.upto fnPassesSpec)

end Rows
end Go.Proofs.Ytiglekmlkklofaa
