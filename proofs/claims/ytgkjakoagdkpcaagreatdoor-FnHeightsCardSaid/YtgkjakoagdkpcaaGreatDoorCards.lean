/-
  DERIVED. GIVEN WITH THE SEED: THE CARDS: each row of YtgkjakoagdkpcaaGreatDoorRows.lean that lists a variable, with what it lists TIED to the program's text (the seventh form; the later family's looks); each row that meets fmt, with fmt's text TOLD by the authors' own Lean function (tested against real Go, not proved from fmt's source: count such statements apart). THE CARD IS WHAT COUNTS. Prove the row's statement (the work); the ties are given (YtgkjakoagdkpcaaGreatDoorTie.lean); close each card by the builder's one call (the guide's Derived/Test/ToyasCard.lean, 'card_holds'). Laid BY PROGRAM, IN A SANDBOX (cutbox-door.mjs). By AI agents, Wed Nov 11 2026. No macro, syntax, notation, axiom, sorry.
-/
import Derived.Test.YtgkjakoagdkpcaaGreatDoorRows
import GoSem.ClaimSeven
namespace Go.Proofs.YtgkjakoagdkpcaaGreatDoor
namespace Rows

/-- THE TIED CARD OF 'laws.FnHeights'. -/
def fnHeightsCard : Claim7 := { stood := { row := fnHeightsRow, standIns := [], harness := (true, "fc618d0e096b03dcad1527f872f0e98dfe28c30d796d180038c525c7714a1a05"), looks := false }, kinds := [], alts := [], laidByText := true, laidKinds := [.data, .data, .data, .widerDeep], laidTests := true, laidLooks := .later }
def FnHeightsCardSaid : Prop := Claim7.holds Tryz.pinned (.plain (OpenSpec.ofChange fnHeightsSpec)) fnHeightsCard

/-- THE SECOND FORM's CARD OF 'laws.FnHeights'. -/
def fnHeightsUptoCard : Claim7 := { stood := { row := fnHeightsUptoRow, standIns := [], harness := (true, "fc618d0e096b03dcad1527f872f0e98dfe28c30d796d180038c525c7714a1a05"), looks := false }, kinds := [], alts := [], laidByText := true, laidKinds := [.data, .data, .data, .widerDeep], laidTests := true, laidLooks := .later }
def FnHeightsUptoCardSaid : Prop := Claim7.holds Tryz.pinned (.plain (OpenSpec.upto fnHeightsSpec)) fnHeightsUptoCard
end Rows
end Go.Proofs.YtgkjakoagdkpcaaGreatDoor
