/-
  DERIVED. GIVEN WITH THE SEED: THE CARDS: each row of YtighjpnjbgjgaaaDoorRows.lean that lists a variable, with what it lists TIED to the program's text (the seventh form; the later family's looks); each row that meets fmt, with fmt's text TOLD by the authors' own Lean function (tested against real Go, not proved from fmt's source: count such statements apart). THE CARD IS WHAT COUNTS. Prove the row's statement (the work); the ties are given (YtighjpnjbgjgaaaDoorTie.lean); close each card by the builder's one call (the guide's Derived/Test/ToyasCard.lean, 'card_holds'). Laid BY PROGRAM, IN A SANDBOX (cutbox-door.mjs). By AI agents, Wed Nov 11 2026. No macro, syntax, notation, axiom, sorry.
-/
import Derived.Test.YtighjpnjbgjgaaaDoorRows
import GoSem.ClaimSeven
namespace Go.Proofs.YtighjpnjbgjgaaaDoor
namespace Rows

/-- THE TIED CARD OF 'laws.FnExactParseMachine'. -/
def fnExactParseMachineCard : Claim7 := { stood := { row := fnExactParseMachineRow, standIns := [], harness := (true, "32551a9326a07700d6cf7a353513561e06deb10350e930719b328740fc2befd3"), looks := false }, kinds := [], alts := [], laidByText := true, laidKinds := [.data, .pinned], laidTests := true, laidLooks := .later }
def FnExactParseMachineCardSaid : Prop := Claim7.holds Tryd.pinned (.plain (OpenSpec.ofChange fnExactParseMachineSpec)) fnExactParseMachineCard

/-- THE SECOND FORM's CARD OF 'laws.FnExactParseMachine'. -/
def fnExactParseMachineUptoCard : Claim7 := { stood := { row := fnExactParseMachineUptoRow, standIns := [], harness := (true, "32551a9326a07700d6cf7a353513561e06deb10350e930719b328740fc2befd3"), looks := false }, kinds := [], alts := [], laidByText := true, laidKinds := [.data, .pinned], laidTests := true, laidLooks := .later }
def FnExactParseMachineUptoCardSaid : Prop := Claim7.holds Tryd.pinned (.plain (OpenSpec.upto fnExactParseMachineSpec)) fnExactParseMachineUptoCard
end Rows
end Go.Proofs.YtighjpnjbgjgaaaDoor
