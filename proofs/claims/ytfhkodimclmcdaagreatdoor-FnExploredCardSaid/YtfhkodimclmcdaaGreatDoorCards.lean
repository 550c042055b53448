/-
  DERIVED. GIVEN WITH THE SEED: THE CARDS: each row of YtfhkodimclmcdaaGreatDoorRows.lean that lists a variable, with what it lists TIED to the program's text (the seventh form; the later family's looks); each row that meets fmt, with fmt's text TOLD by the authors' own Lean function (tested against real Go, not proved from fmt's source: count such statements apart). THE CARD IS WHAT COUNTS. Prove the row's statement (the work); the ties are given (YtfhkodimclmcdaaGreatDoorTie.lean); close each card by the builder's one call (the guide's Derived/Test/ToyasCard.lean, 'card_holds'). Laid BY PROGRAM, IN A SANDBOX (cutbox-door.mjs). By AI agents, Wed Nov 11 2026. No macro, syntax, notation, axiom, sorry.
-/
import Derived.Test.YtfhkodimclmcdaaGreatDoorRows
import GoSem.ClaimSeven
namespace Go.Proofs.YtfhkodimclmcdaaGreatDoor
namespace Rows

/-- THE TIED CARD OF 'laws.FnMerged'. -/
def fnMergedCard : Claim7 := { stood := { row := fnMergedRow, standIns := [], harness := (true, "414746790bf46c444e0c8d92f3c040f52ba7f979e2cf180cb3cccdc64c1ba13a"), looks := false }, kinds := [], alts := [], laidByText := true, laidKinds := [.data, .data, .data], laidTests := true, laidLooks := .later }
def FnMergedCardSaid : Prop := Claim7.holds Tryz.pinned (.plain (OpenSpec.ofChange fnMergedSpec)) fnMergedCard

/-- THE TIED CARD OF 'laws.FnExplored'. -/
def fnExploredCard : Claim7 := { stood := { row := fnExploredRow, standIns := [], harness := (true, "414746790bf46c444e0c8d92f3c040f52ba7f979e2cf180cb3cccdc64c1ba13a"), looks := false }, kinds := [], alts := [], laidByText := true, laidKinds := [.data, .data, .data], laidTests := true, laidLooks := .later }
def FnExploredCardSaid : Prop := Claim7.holds Tryz.pinned (.plain (OpenSpec.ofChange fnExploredSpec)) fnExploredCard

/-- THE SECOND FORM's CARD OF 'laws.FnMerged'. -/
def fnMergedUptoCard : Claim7 := { stood := { row := fnMergedUptoRow, standIns := [], harness := (true, "414746790bf46c444e0c8d92f3c040f52ba7f979e2cf180cb3cccdc64c1ba13a"), looks := false }, kinds := [], alts := [], laidByText := true, laidKinds := [.data, .data, .data], laidTests := true, laidLooks := .later }
def FnMergedUptoCardSaid : Prop := Claim7.holds Tryz.pinned (.plain (OpenSpec.upto fnMergedSpec)) fnMergedUptoCard

/-- THE SECOND FORM's CARD OF 'laws.FnExplored'. -/
def fnExploredUptoCard : Claim7 := { stood := { row := fnExploredUptoRow, standIns := [], harness := (true, "414746790bf46c444e0c8d92f3c040f52ba7f979e2cf180cb3cccdc64c1ba13a"), looks := false }, kinds := [], alts := [], laidByText := true, laidKinds := [.data, .data, .data], laidTests := true, laidLooks := .later }
def FnExploredUptoCardSaid : Prop := Claim7.holds Tryz.pinned (.plain (OpenSpec.upto fnExploredSpec)) fnExploredUptoCard
end Rows
end Go.Proofs.YtfhkodimclmcdaaGreatDoor
