/-
  DERIVED. GIVEN WITH THE SEED: THE CARDS: each row of YtndmanmhalpjgaaGreatDoorRows.lean that lists a variable, with what it lists TIED to the program's text (the seventh form; the later family's looks); each row that meets fmt, with fmt's text TOLD by the authors' own Lean function (tested against real Go, not proved from fmt's source: count such statements apart). THE CARD IS WHAT COUNTS. Prove the row's statement (the work); the ties are given (YtndmanmhalpjgaaGreatDoorTie.lean); close each card by the builder's one call (the guide's Derived/Test/ToyasCard.lean, 'card_holds'). Laid BY PROGRAM, IN A SANDBOX (cutbox-door.mjs). By AI agents, Wed Nov 11 2026. No macro, syntax, notation, axiom, sorry.
-/
import Derived.Test.YtndmanmhalpjgaaGreatDoorRows
import GoSem.ClaimSeven
namespace Go.Proofs.YtndmanmhalpjgaaGreatDoor
namespace Rows

/-- THE TIED CARD OF 'laws.FnFacts'. -/
def fnFactsCard : Claim7 := { stood := { row := fnFactsRow, standIns := [], harness := (true, "83f2997f63922da7b70269875e0c28b819db19a04f0586e88ba2e1c6f60a48e3"), looks := true }, kinds := [], alts := [], laidByText := true, laidKinds := [.data, .data, .data, .data, .sentinel, .sentinel, .pinned], laidTests := true, laidLooks := .later }
def FnFactsCardSaid : Prop := Claim7.holds Tryz.pinned (.plain (OpenSpec.ofChange fnFactsSpec)) fnFactsCard

/-- THE SECOND FORM's CARD OF 'laws.FnFacts'. -/
def fnFactsUptoCard : Claim7 := { stood := { row := fnFactsUptoRow, standIns := [], harness := (true, "83f2997f63922da7b70269875e0c28b819db19a04f0586e88ba2e1c6f60a48e3"), looks := true }, kinds := [], alts := [], laidByText := true, laidKinds := [.data, .data, .data, .data, .sentinel, .sentinel, .pinned], laidTests := true, laidLooks := .later }
def FnFactsUptoCardSaid : Prop := Claim7.holds Tryz.pinned (.plain (OpenSpec.upto fnFactsSpec)) fnFactsUptoCard
end Rows
end Go.Proofs.YtndmanmhalpjgaaGreatDoor
