/-
  DERIVED. GIVEN WITH THE SEED: THE CARDS: each row of YtieniogfnhhlbaaDoorRows.lean that lists a variable, with what it lists TIED to the program's text (the seventh form; the later family's looks); each row that meets fmt, with fmt's text TOLD by the authors' own Lean function (tested against real Go, not proved from fmt's source: count such statements apart). THE CARD IS WHAT COUNTS. Prove the row's statement (the work); the ties are given (YtieniogfnhhlbaaDoorTie.lean); close each card by the builder's one call (the guide's Derived/Test/ToyasCard.lean, 'card_holds'). Laid BY PROGRAM, IN A SANDBOX (cutbox-door.mjs). By AI agents, Wed Nov 11 2026. No macro, syntax, notation, axiom, sorry.
-/
import Derived.Test.YtieniogfnhhlbaaDoorRows
import GoSem.ClaimSeven
namespace Go.Proofs.YtieniogfnhhlbaaDoor
namespace Rows

/-- THE TIED CARD OF 'laws.FnExactIsConsoleLine'. -/
def fnExactIsConsoleLineCard : Claim7 := { stood := { row := fnExactIsConsoleLineRow, standIns := [], harness := (true, "ecf04f494a4102adecdbcb51d44b451a3f4d4b55fc8071afc9aa1db31395d6c4"), looks := true }, kinds := [], alts := [], laidByText := true, laidKinds := [.data, .data, .data, .data, .sentinel, .sentinel, .pinned], laidTests := true, laidLooks := .later }
def FnExactIsConsoleLineCardSaid : Prop := Claim7.holds Tryd.pinned (.plain (OpenSpec.ofChange fnExactIsConsoleLineSpec)) fnExactIsConsoleLineCard

/-- THE SECOND FORM's CARD OF 'laws.FnExactIsConsoleLine'. -/
def fnExactIsConsoleLineUptoCard : Claim7 := { stood := { row := fnExactIsConsoleLineUptoRow, standIns := [], harness := (true, "ecf04f494a4102adecdbcb51d44b451a3f4d4b55fc8071afc9aa1db31395d6c4"), looks := true }, kinds := [], alts := [], laidByText := true, laidKinds := [.data, .data, .data, .data, .sentinel, .sentinel, .pinned], laidTests := true, laidLooks := .later }
def FnExactIsConsoleLineUptoCardSaid : Prop := Claim7.holds Tryd.pinned (.plain (OpenSpec.upto fnExactIsConsoleLineSpec)) fnExactIsConsoleLineUptoCard
end Rows
end Go.Proofs.YtieniogfnhhlbaaDoor
