/-
  No cell of these rows narrows 'for every input' (looked for: loops, veiled, ifaces, maps, wideKeys, modest, calm, conditions, laid).
  DERIVED. THE GIVEN ROWS OF THIS SEAT. 12 by the template 'for every input the law returns true; each argument reads behind the call as it read before'; 0 by the template 'total and deterministic' (their statements: YtoibjedpniepbaaTotals.lean).
  GIVEN WITH THE SEED: the statements are not yours to turn. If you find one false, say at which input.
  Laid BY PROGRAM, IN A SANDBOX (cutbox-rows.mjs): the forced cells as the released guide's own fill.sh prints them over the translation 6ddf09fdcbe7a07b… (all of the seat's roots in one cut). By AI agents, Wed Nov 11 2026. No macro, syntax, notation, axiom, sorry.
-/
import Derived.Test.YtoibjedpniepbaaChecked
import GoSem.Claim
import GoSem.ClaimJoined
import GoSem.ClaimMapViews
import Derived.JoinedTies
import Derived.KernelRfl
namespace Go.Proofs.Ytoibjedpniepbaa
/- THE CELL 'sum', in the pinned program and in every row, IS THE sha256 OF THE DUMP (.gsa) THAT YtoibjedpniepbaaProg.lean LOADS. Nothing in Lean hashes anything: it is a label: what it is worth is what the hold of that sum in a sandbox is worth. -/
noncomputable def Try.pinned : Pinned := { name := "ytoibjedpniepbaa", sum := "6ddf09fdcbe7a07b9cc99055481c954110b91c4c00d8ba8f954fc143519c72c1", checked := Try.checked }
namespace Rows
def none {H : Type} : Left H := { results := [], args := [] }

/-- 'laws.FnExactIsField': WHATEVER THE INPUT: true; the input reads as it did. -/
def fnExactIsFieldSpec : ChangeSpec := { name := "fnExactIsField", fn := fun _ => fun
  | [d] => { results := [.lit (.bool true)], args := [d] }
  | _ => none }
def fnExactIsFieldRow : OpenClaim := { program := "ytoibjedpniepbaa", sum := "6ddf09fdcbe7a07b9cc99055481c954110b91c4c00d8ba8f954fc143519c72c1", func := "loop.example/g00910/laws.FnExactIsField", spec := "fnExactIsField", apart := false }
def FnExactIsFieldSaid : Prop := fnExactIsFieldRow.holds Try.pinned (OpenSpec.ofChange fnExactIsFieldSpec)

/-- ITS FALSE NEIGHBOUR: 'it returns false'. Refute it at one input. -/
def fnExactIsFieldWrong : ChangeSpec := { name := "fnExactIsField", fn := fun _ => fun
  | [d] => { results := [.lit (.bool false)], args := [d] }
  | _ => none }
def FnExactIsFieldWrongFalsely : Prop := fnExactIsFieldRow.holds Try.pinned (OpenSpec.ofChange fnExactIsFieldWrong)

/-- 'laws.FnExactArePrizes': WHATEVER THE INPUT: true; the input reads as it did. -/
def fnExactArePrizesSpec : ChangeSpec := { name := "fnExactArePrizes", fn := fun _ => fun
  | [d1, d2] => { results := [.lit (.bool true)], args := [d1, d2] }
  | _ => none }
def fnExactArePrizesRow : OpenClaim := { program := "ytoibjedpniepbaa", sum := "6ddf09fdcbe7a07b9cc99055481c954110b91c4c00d8ba8f954fc143519c72c1", func := "loop.example/g00910/laws.FnExactArePrizes", spec := "fnExactArePrizes", apart := false }
def FnExactArePrizesSaid : Prop := fnExactArePrizesRow.holds Try.pinned (OpenSpec.ofChange fnExactArePrizesSpec)

/-- ITS FALSE NEIGHBOUR: 'it returns false'. Refute it at one input. -/
def fnExactArePrizesWrong : ChangeSpec := { name := "fnExactArePrizes", fn := fun _ => fun
  | [d1, d2] => { results := [.lit (.bool false)], args := [d1, d2] }
  | _ => none }
def FnExactArePrizesWrongFalsely : Prop := fnExactArePrizesRow.holds Try.pinned (OpenSpec.ofChange fnExactArePrizesWrong)

/-- 'laws.FnExactTransferChips': WHATEVER THE INPUT: true; the input reads as it did. -/
def fnExactTransferChipsSpec : ChangeSpec := { name := "fnExactTransferChips", fn := fun _ => fun
  | [d1, d2, d3, d4] => { results := [.lit (.bool true)], args := [d1, d2, d3, d4] }
  | _ => none }
def fnExactTransferChipsRow : OpenClaim := { program := "ytoibjedpniepbaa", sum := "6ddf09fdcbe7a07b9cc99055481c954110b91c4c00d8ba8f954fc143519c72c1", func := "loop.example/g00910/laws.FnExactTransferChips", spec := "fnExactTransferChips", apart := false }
def FnExactTransferChipsSaid : Prop := fnExactTransferChipsRow.holds Try.pinned (OpenSpec.ofChange fnExactTransferChipsSpec)

/-- ITS FALSE NEIGHBOUR: 'it returns false'. Refute it at one input. -/
def fnExactTransferChipsWrong : ChangeSpec := { name := "fnExactTransferChips", fn := fun _ => fun
  | [d1, d2, d3, d4] => { results := [.lit (.bool false)], args := [d1, d2, d3, d4] }
  | _ => none }
def FnExactTransferChipsWrongFalsely : Prop := fnExactTransferChipsRow.holds Try.pinned (OpenSpec.ofChange fnExactTransferChipsWrong)

/-- 'laws.FnExactEquityOf': WHATEVER THE INPUT: true; the input reads as it did. -/
def fnExactEquityOfSpec : ChangeSpec := { name := "fnExactEquityOf", fn := fun _ => fun
  | [d1, d2, d3] => { results := [.lit (.bool true)], args := [d1, d2, d3] }
  | _ => none }
def fnExactEquityOfRow : OpenClaim := { program := "ytoibjedpniepbaa", sum := "6ddf09fdcbe7a07b9cc99055481c954110b91c4c00d8ba8f954fc143519c72c1", func := "loop.example/g00910/laws.FnExactEquityOf", spec := "fnExactEquityOf", recurses := true, apart := false }
def FnExactEquityOfSaid : Prop := fnExactEquityOfRow.holds Try.pinned (OpenSpec.ofChange fnExactEquityOfSpec)

/-- ITS FALSE NEIGHBOUR: 'it returns false'. Refute it at one input. -/
def fnExactEquityOfWrong : ChangeSpec := { name := "fnExactEquityOf", fn := fun _ => fun
  | [d1, d2, d3] => { results := [.lit (.bool false)], args := [d1, d2, d3] }
  | _ => none }
def FnExactEquityOfWrongFalsely : Prop := fnExactEquityOfRow.holds Try.pinned (OpenSpec.ofChange fnExactEquityOfWrong)

/-- 'laws.FnExactFieldEquities': WHATEVER THE INPUT: true; the input reads as it did. -/
def fnExactFieldEquitiesSpec : ChangeSpec := { name := "fnExactFieldEquities", fn := fun _ => fun
  | [d1, d2] => { results := [.lit (.bool true)], args := [d1, d2] }
  | _ => none }
def fnExactFieldEquitiesRow : OpenClaim := { program := "ytoibjedpniepbaa", sum := "6ddf09fdcbe7a07b9cc99055481c954110b91c4c00d8ba8f954fc143519c72c1", func := "loop.example/g00910/laws.FnExactFieldEquities", spec := "fnExactFieldEquities", recurses := true, apart := false }
def FnExactFieldEquitiesSaid : Prop := fnExactFieldEquitiesRow.holds Try.pinned (OpenSpec.ofChange fnExactFieldEquitiesSpec)

/-- ITS FALSE NEIGHBOUR: 'it returns false'. Refute it at one input. -/
def fnExactFieldEquitiesWrong : ChangeSpec := { name := "fnExactFieldEquities", fn := fun _ => fun
  | [d1, d2] => { results := [.lit (.bool false)], args := [d1, d2] }
  | _ => none }
def FnExactFieldEquitiesWrongFalsely : Prop := fnExactFieldEquitiesRow.holds Try.pinned (OpenSpec.ofChange fnExactFieldEquitiesWrong)

/-- 'laws.FnExactPlaceOdds': WHATEVER THE INPUT: true; the input reads as it did. -/
def fnExactPlaceOddsSpec : ChangeSpec := { name := "fnExactPlaceOdds", fn := fun _ => fun
  | [d1, d2, d3] => { results := [.lit (.bool true)], args := [d1, d2, d3] }
  | _ => none }
def fnExactPlaceOddsRow : OpenClaim := { program := "ytoibjedpniepbaa", sum := "6ddf09fdcbe7a07b9cc99055481c954110b91c4c00d8ba8f954fc143519c72c1", func := "loop.example/g00910/laws.FnExactPlaceOdds", spec := "fnExactPlaceOdds", recurses := true, apart := false }
def FnExactPlaceOddsSaid : Prop := fnExactPlaceOddsRow.holds Try.pinned (OpenSpec.ofChange fnExactPlaceOddsSpec)

/-- ITS FALSE NEIGHBOUR: 'it returns false'. Refute it at one input. -/
def fnExactPlaceOddsWrong : ChangeSpec := { name := "fnExactPlaceOdds", fn := fun _ => fun
  | [d1, d2, d3] => { results := [.lit (.bool false)], args := [d1, d2, d3] }
  | _ => none }
def FnExactPlaceOddsWrongFalsely : Prop := fnExactPlaceOddsRow.holds Try.pinned (OpenSpec.ofChange fnExactPlaceOddsWrong)

/-- 'laws.FnExactChipValue': WHATEVER THE INPUT: true; the input reads as it did. -/
def fnExactChipValueSpec : ChangeSpec := { name := "fnExactChipValue", fn := fun _ => fun
  | [d1, d2, d3] => { results := [.lit (.bool true)], args := [d1, d2, d3] }
  | _ => none }
def fnExactChipValueRow : OpenClaim := { program := "ytoibjedpniepbaa", sum := "6ddf09fdcbe7a07b9cc99055481c954110b91c4c00d8ba8f954fc143519c72c1", func := "loop.example/g00910/laws.FnExactChipValue", spec := "fnExactChipValue", recurses := true, apart := false }
def FnExactChipValueSaid : Prop := fnExactChipValueRow.holds Try.pinned (OpenSpec.ofChange fnExactChipValueSpec)

/-- ITS FALSE NEIGHBOUR: 'it returns false'. Refute it at one input. -/
def fnExactChipValueWrong : ChangeSpec := { name := "fnExactChipValue", fn := fun _ => fun
  | [d1, d2, d3] => { results := [.lit (.bool false)], args := [d1, d2, d3] }
  | _ => none }
def FnExactChipValueWrongFalsely : Prop := fnExactChipValueRow.holds Try.pinned (OpenSpec.ofChange fnExactChipValueWrong)

/-- 'laws.FnExactRiskPremium': WHATEVER THE INPUT: true; the input reads as it did. -/
def fnExactRiskPremiumSpec : ChangeSpec := { name := "fnExactRiskPremium", fn := fun _ => fun
  | [d1, d2, d3, d4, d5] => { results := [.lit (.bool true)], args := [d1, d2, d3, d4, d5] }
  | _ => none }
def fnExactRiskPremiumRow : OpenClaim := { program := "ytoibjedpniepbaa", sum := "6ddf09fdcbe7a07b9cc99055481c954110b91c4c00d8ba8f954fc143519c72c1", func := "loop.example/g00910/laws.FnExactRiskPremium", spec := "fnExactRiskPremium", recurses := true, apart := false }
def FnExactRiskPremiumSaid : Prop := fnExactRiskPremiumRow.holds Try.pinned (OpenSpec.ofChange fnExactRiskPremiumSpec)

/-- ITS FALSE NEIGHBOUR: 'it returns false'. Refute it at one input. -/
def fnExactRiskPremiumWrong : ChangeSpec := { name := "fnExactRiskPremium", fn := fun _ => fun
  | [d1, d2, d3, d4, d5] => { results := [.lit (.bool false)], args := [d1, d2, d3, d4, d5] }
  | _ => none }
def FnExactRiskPremiumWrongFalsely : Prop := fnExactRiskPremiumRow.holds Try.pinned (OpenSpec.ofChange fnExactRiskPremiumWrong)

/-- 'laws.FnPlaces': WHATEVER THE INPUT: true; the input reads as it did. -/
def fnPlacesSpec : ChangeSpec := { name := "fnPlaces", fn := fun _ => fun
  | [d] => { results := [.lit (.bool true)], args := [d] }
  | _ => none }
def fnPlacesRow : OpenClaim := { program := "ytoibjedpniepbaa", sum := "6ddf09fdcbe7a07b9cc99055481c954110b91c4c00d8ba8f954fc143519c72c1", func := "loop.example/g00910/laws.FnPlaces", spec := "fnPlaces", recurses := true, apart := false }
def FnPlacesSaid : Prop := fnPlacesRow.holds Try.pinned (OpenSpec.ofChange fnPlacesSpec)

/-- ITS FALSE NEIGHBOUR: 'it returns false'. Refute it at one input. -/
def fnPlacesWrong : ChangeSpec := { name := "fnPlaces", fn := fun _ => fun
  | [d] => { results := [.lit (.bool false)], args := [d] }
  | _ => none }
def FnPlacesWrongFalsely : Prop := fnPlacesRow.holds Try.pinned (OpenSpec.ofChange fnPlacesWrong)

/-- 'laws.FnTournaments': WHATEVER THE INPUT: true; the input reads as it did. -/
def fnTournamentsSpec : ChangeSpec := { name := "fnTournaments", fn := fun _ => fun
  | [d] => { results := [.lit (.bool true)], args := [d] }
  | _ => none }
def fnTournamentsRow : OpenClaim := { program := "ytoibjedpniepbaa", sum := "6ddf09fdcbe7a07b9cc99055481c954110b91c4c00d8ba8f954fc143519c72c1", func := "loop.example/g00910/laws.FnTournaments", spec := "fnTournaments", recurses := true, apart := false }
def FnTournamentsSaid : Prop := fnTournamentsRow.holds Try.pinned (OpenSpec.ofChange fnTournamentsSpec)

/-- ITS FALSE NEIGHBOUR: 'it returns false'. Refute it at one input. -/
def fnTournamentsWrong : ChangeSpec := { name := "fnTournaments", fn := fun _ => fun
  | [d] => { results := [.lit (.bool false)], args := [d] }
  | _ => none }
def FnTournamentsWrongFalsely : Prop := fnTournamentsRow.holds Try.pinned (OpenSpec.ofChange fnTournamentsWrong)

/-- 'laws.FnTransfers': WHATEVER THE INPUT: true; the input reads as it did. -/
def fnTransfersSpec : ChangeSpec := { name := "fnTransfers", fn := fun _ => fun
  | [d] => { results := [.lit (.bool true)], args := [d] }
  | _ => none }
def fnTransfersRow : OpenClaim := { program := "ytoibjedpniepbaa", sum := "6ddf09fdcbe7a07b9cc99055481c954110b91c4c00d8ba8f954fc143519c72c1", func := "loop.example/g00910/laws.FnTransfers", spec := "fnTransfers", recurses := true, apart := false }
def FnTransfersSaid : Prop := fnTransfersRow.holds Try.pinned (OpenSpec.ofChange fnTransfersSpec)

/-- ITS FALSE NEIGHBOUR: 'it returns false'. Refute it at one input. -/
def fnTransfersWrong : ChangeSpec := { name := "fnTransfers", fn := fun _ => fun
  | [d] => { results := [.lit (.bool false)], args := [d] }
  | _ => none }
def FnTransfersWrongFalsely : Prop := fnTransfersRow.holds Try.pinned (OpenSpec.ofChange fnTransfersWrong)

/-- 'laws.FnExactIsAcceptable': WHATEVER THE INPUT: true; the input reads as it did. -/
def fnExactIsAcceptableSpec : ChangeSpec := { name := "fnExactIsAcceptable", fn := fun _ => fun
  | [d1, d2, d3] => { results := [.lit (.bool true)], args := [d1, d2, d3] }
  | _ => none }
def fnExactIsAcceptableRow : OpenClaim := { program := "ytoibjedpniepbaa", sum := "6ddf09fdcbe7a07b9cc99055481c954110b91c4c00d8ba8f954fc143519c72c1", func := "loop.example/g00910/laws.FnExactIsAcceptable", spec := "fnExactIsAcceptable", recurses := true, apart := false }
def FnExactIsAcceptableSaid : Prop := fnExactIsAcceptableRow.holds Try.pinned (OpenSpec.ofChange fnExactIsAcceptableSpec)

/-- ITS FALSE NEIGHBOUR: 'it returns false'. Refute it at one input. -/
def fnExactIsAcceptableWrong : ChangeSpec := { name := "fnExactIsAcceptable", fn := fun _ => fun
  | [d1, d2, d3] => { results := [.lit (.bool false)], args := [d1, d2, d3] }
  | _ => none }
def FnExactIsAcceptableWrongFalsely : Prop := fnExactIsAcceptableRow.holds Try.pinned (OpenSpec.ofChange fnExactIsAcceptableWrong)

/- THE SECOND FORM. 'bulk': how many values and letters a reading holds, each counted each time it is reached (what is shared counts as often as it is met; a slice's spare places count too). A statement '..UptoSaid' is the law's where the arguments, and the package variables that the reading takes, are together of bulk at most 1048576: NARROWER than '..Said'. Prove '..Said' where nothing that the law and all that it calls make is longer than what came in: it says more and counts as full. Else prove '..UptoSaid'. A law counts once. -/
mutual
def uptoBulk {H : Type} : DataW H → Nat
  | .lit (.string bytes) => bytes.length + 1
  | .lit _ => 1
  | .nil => 1
  | .ptr d => uptoBulk d + 1
  | .slice elems spare => uptoBulkAll elems + uptoBulkAll spare + 1
  | .agg parts => uptoBulkAll parts + 1
  | .iface _ d => uptoBulk d + 1
  | .map entries => uptoBulkEntries entries + 1
  | .held _ => 1
def uptoBulkAll {H : Type} : List (DataW H) → Nat
  | [] => 0
  | d :: r => uptoBulk d + uptoBulkAll r
def uptoBulkEntries {H : Type} : List (Lit × DataW H) → Nat
  | [] => 0
  | x :: r => uptoBulkEntry x + uptoBulkEntries r
def uptoBulkEntry {H : Type} : Lit × DataW H → Nat
  | (.string bytes, d) => bytes.length + uptoBulk d + 1
  | (_, d) => uptoBulk d + 1
 end
def uptoSmall : (H : Type) → List (DataW H) → Bool := fun _ ds => decide (uptoBulkAll ds ≤ 1048576)
def OpenSpec.upto (s : _root_.Go.ChangeSpec) : _root_.Go.OpenSpec := { _root_.Go.OpenSpec.ofChange s with cond := some uptoSmall }

/-- 'laws.FnExactIsField', WHERE WHAT IT READS IS OF BULK AT MOST 1048576: true; the input reads as it did. -/
def fnExactIsFieldUptoRow : OpenClaim := { program := "ytoibjedpniepbaa", sum := "6ddf09fdcbe7a07b9cc99055481c954110b91c4c00d8ba8f954fc143519c72c1", func := "loop.example/g00910/laws.FnExactIsField", spec := "fnExactIsField", apart := false, narrowed := true }
def FnExactIsFieldUptoSaid : Prop := fnExactIsFieldUptoRow.holds Try.pinned (OpenSpec.upto fnExactIsFieldSpec)

/-- 'laws.FnExactArePrizes', WHERE WHAT IT READS IS OF BULK AT MOST 1048576: true; the input reads as it did. -/
def fnExactArePrizesUptoRow : OpenClaim := { program := "ytoibjedpniepbaa", sum := "6ddf09fdcbe7a07b9cc99055481c954110b91c4c00d8ba8f954fc143519c72c1", func := "loop.example/g00910/laws.FnExactArePrizes", spec := "fnExactArePrizes", apart := false, narrowed := true }
def FnExactArePrizesUptoSaid : Prop := fnExactArePrizesUptoRow.holds Try.pinned (OpenSpec.upto fnExactArePrizesSpec)

/-- 'laws.FnExactTransferChips', WHERE WHAT IT READS IS OF BULK AT MOST 1048576: true; the input reads as it did. -/
def fnExactTransferChipsUptoRow : OpenClaim := { program := "ytoibjedpniepbaa", sum := "6ddf09fdcbe7a07b9cc99055481c954110b91c4c00d8ba8f954fc143519c72c1", func := "loop.example/g00910/laws.FnExactTransferChips", spec := "fnExactTransferChips", apart := false, narrowed := true }
def FnExactTransferChipsUptoSaid : Prop := fnExactTransferChipsUptoRow.holds Try.pinned (OpenSpec.upto fnExactTransferChipsSpec)

/-- 'laws.FnExactEquityOf', WHERE WHAT IT READS IS OF BULK AT MOST 1048576: true; the input reads as it did. -/
def fnExactEquityOfUptoRow : OpenClaim := { program := "ytoibjedpniepbaa", sum := "6ddf09fdcbe7a07b9cc99055481c954110b91c4c00d8ba8f954fc143519c72c1", func := "loop.example/g00910/laws.FnExactEquityOf", spec := "fnExactEquityOf", recurses := true, apart := false, narrowed := true }
def FnExactEquityOfUptoSaid : Prop := fnExactEquityOfUptoRow.holds Try.pinned (OpenSpec.upto fnExactEquityOfSpec)

/-- 'laws.FnExactFieldEquities', WHERE WHAT IT READS IS OF BULK AT MOST 1048576: true; the input reads as it did. -/
def fnExactFieldEquitiesUptoRow : OpenClaim := { program := "ytoibjedpniepbaa", sum := "6ddf09fdcbe7a07b9cc99055481c954110b91c4c00d8ba8f954fc143519c72c1", func := "loop.example/g00910/laws.FnExactFieldEquities", spec := "fnExactFieldEquities", recurses := true, apart := false, narrowed := true }
def FnExactFieldEquitiesUptoSaid : Prop := fnExactFieldEquitiesUptoRow.holds Try.pinned (OpenSpec.upto fnExactFieldEquitiesSpec)

/-- 'laws.FnExactPlaceOdds', WHERE WHAT IT READS IS OF BULK AT MOST 1048576: true; the input reads as it did. -/
def fnExactPlaceOddsUptoRow : OpenClaim := { program := "ytoibjedpniepbaa", sum := "6ddf09fdcbe7a07b9cc99055481c954110b91c4c00d8ba8f954fc143519c72c1", func := "loop.example/g00910/laws.FnExactPlaceOdds", spec := "fnExactPlaceOdds", recurses := true, apart := false, narrowed := true }
def FnExactPlaceOddsUptoSaid : Prop := fnExactPlaceOddsUptoRow.holds Try.pinned (OpenSpec.upto fnExactPlaceOddsSpec)

/-- 'laws.FnExactChipValue', WHERE WHAT IT READS IS OF BULK AT MOST 1048576: true; the input reads as it did. -/
def fnExactChipValueUptoRow : OpenClaim := { program := "ytoibjedpniepbaa", sum := "6ddf09fdcbe7a07b9cc99055481c954110b91c4c00d8ba8f954fc143519c72c1", func := "loop.example/g00910/laws.FnExactChipValue", spec := "fnExactChipValue", recurses := true, apart := false, narrowed := true }
def FnExactChipValueUptoSaid : Prop := fnExactChipValueUptoRow.holds Try.pinned (OpenSpec.upto fnExactChipValueSpec)

/-- 'laws.FnExactRiskPremium', WHERE WHAT IT READS IS OF BULK AT MOST 1048576: true; the input reads as it did. -/
def fnExactRiskPremiumUptoRow : OpenClaim := { program := "ytoibjedpniepbaa", sum := "6ddf09fdcbe7a07b9cc99055481c954110b91c4c00d8ba8f954fc143519c72c1", func := "loop.example/g00910/laws.FnExactRiskPremium", spec := "fnExactRiskPremium", recurses := true, apart := false, narrowed := true }
def FnExactRiskPremiumUptoSaid : Prop := fnExactRiskPremiumUptoRow.holds Try.pinned (OpenSpec.upto fnExactRiskPremiumSpec)

/-- 'laws.FnPlaces', WHERE WHAT IT READS IS OF BULK AT MOST 1048576: true; the input reads as it did. -/
def fnPlacesUptoRow : OpenClaim := { program := "ytoibjedpniepbaa", sum := "6ddf09fdcbe7a07b9cc99055481c954110b91c4c00d8ba8f954fc143519c72c1", func := "loop.example/g00910/laws.FnPlaces", spec := "fnPlaces", recurses := true, apart := false, narrowed := true }
def FnPlacesUptoSaid : Prop := fnPlacesUptoRow.holds Try.pinned (OpenSpec.upto fnPlacesSpec)

/-- 'laws.FnTournaments', WHERE WHAT IT READS IS OF BULK AT MOST 1048576: true; the input reads as it did. -/
def fnTournamentsUptoRow : OpenClaim := { program := "ytoibjedpniepbaa", sum := "6ddf09fdcbe7a07b9cc99055481c954110b91c4c00d8ba8f954fc143519c72c1", func := "loop.example/g00910/laws.FnTournaments", spec := "fnTournaments", recurses := true, apart := false, narrowed := true }
def FnTournamentsUptoSaid : Prop := fnTournamentsUptoRow.holds Try.pinned (OpenSpec.upto fnTournamentsSpec)

/-- 'laws.FnTransfers', WHERE WHAT IT READS IS OF BULK AT MOST 1048576: true; the input reads as it did. -/
def fnTransfersUptoRow : OpenClaim := { program := "ytoibjedpniepbaa", sum := "6ddf09fdcbe7a07b9cc99055481c954110b91c4c00d8ba8f954fc143519c72c1", func := "loop.example/g00910/laws.FnTransfers", spec := "fnTransfers", recurses := true, apart := false, narrowed := true }
def FnTransfersUptoSaid : Prop := fnTransfersUptoRow.holds Try.pinned (OpenSpec.upto fnTransfersSpec)

/-- 'laws.FnExactIsAcceptable', WHERE WHAT IT READS IS OF BULK AT MOST 1048576: true; the input reads as it did. -/
def fnExactIsAcceptableUptoRow : OpenClaim := { program := "ytoibjedpniepbaa", sum := "6ddf09fdcbe7a07b9cc99055481c954110b91c4c00d8ba8f954fc143519c72c1", func := "loop.example/g00910/laws.FnExactIsAcceptable", spec := "fnExactIsAcceptable", recurses := true, apart := false, narrowed := true }
def FnExactIsAcceptableUptoSaid : Prop := fnExactIsAcceptableUptoRow.holds Try.pinned (OpenSpec.upto fnExactIsAcceptableSpec)

end Rows
end Go.Proofs.Ytoibjedpniepbaa
