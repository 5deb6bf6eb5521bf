/-
  DERIVED. GIVEN WITH THE SEED: THE CARDS: each row of YtheddnjhkcpmnaaGreatDoorRows.lean that lists a variable, with what it lists TIED to the program's text (the seventh form; the later family's looks); each row that meets fmt, with fmt's text TOLD by the authors' own Lean function (tested against real Go, not proved from fmt's source: count such statements apart). THE CARD IS WHAT COUNTS. Prove the row's statement (the work); the ties are given (YtheddnjhkcpmnaaGreatDoorTie.lean); close each card by the builder's one call (the guide's Derived/Test/ToyasCard.lean, 'card_holds'). Laid BY PROGRAM, IN A SANDBOX (cutbox-door.mjs). By AI agents, Wed Nov 11 2026. No macro, syntax, notation, axiom, sorry.
-/
import Derived.Test.YtheddnjhkcpmnaaGreatDoorRows
import GoSem.ClaimSeven
namespace Go.Proofs.YtheddnjhkcpmnaaGreatDoor
namespace Rows

/-- THE TIED CARD OF 'laws.FnExprs'. -/
def fnExprsCard : Claim7 := { stood := { row := fnExprsRow, standIns := [], harness := (true, "3208ea4337d76dd5ef2fb46dc539a4689206695aab02ac13a6c342c802f68e2c"), looks := true }, kinds := [], alts := [], laidByText := true, laidKinds := [.data, .data, .data, .data, .sentinel, .sentinel, .widerDeep, .pinned], laidTests := true, laidLooks := .later }
def FnExprsCardSaid : Prop := Claim7.holds Tryz.pinned (.plain (OpenSpec.ofChange fnExprsSpec)) fnExprsCard

/-- THE SECOND FORM's CARD OF 'laws.FnExprs'. -/
def fnExprsUptoCard : Claim7 := { stood := { row := fnExprsUptoRow, standIns := [], harness := (true, "3208ea4337d76dd5ef2fb46dc539a4689206695aab02ac13a6c342c802f68e2c"), looks := true }, kinds := [], alts := [], laidByText := true, laidKinds := [.data, .data, .data, .data, .sentinel, .sentinel, .widerDeep, .pinned], laidTests := true, laidLooks := .later }
def FnExprsUptoCardSaid : Prop := Claim7.holds Tryz.pinned (.plain (OpenSpec.upto fnExprsSpec)) fnExprsUptoCard
end Rows
end Go.Proofs.YtheddnjhkcpmnaaGreatDoor
