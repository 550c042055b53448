/-
  DERIVED. GIVEN WITH THE SEED: THE CARDS: each row of YtfjkpndogncdcaaGreatDoorRows.lean that lists a variable, with what it lists TIED to the program's text (the seventh form; the later family's looks); each row that meets fmt, with fmt's text TOLD by the authors' own Lean function (tested against real Go, not proved from fmt's source: count such statements apart). THE CARD IS WHAT COUNTS. Prove the row's statement (the work); the ties are given (YtfjkpndogncdcaaGreatDoorTie.lean); close each card by the builder's one call (the guide's Derived/Test/ToyasCard.lean, 'card_holds'). Laid BY PROGRAM, IN A SANDBOX (cutbox-door.mjs). By AI agents, Wed Nov 11 2026. No macro, syntax, notation, axiom, sorry.
-/
import Derived.Test.YtfjkpndogncdcaaGreatDoorRows
import GoSem.ClaimSeven
namespace Go.Proofs.YtfjkpndogncdcaaGreatDoor
namespace Rows

/-- THE TIED CARD OF 'laws.FnStepped'. -/
def fnSteppedCard : Claim7 := { stood := { row := fnSteppedRow, standIns := [], harness := (true, "f9d20fe1a6826034f2a583eb89f34de8abeadbda2664eaa1a841508059e28e70"), looks := false }, kinds := [], alts := [], laidByText := true, laidKinds := [.data, .data, .data], laidTests := true, laidLooks := .later }
def FnSteppedCardSaid : Prop := Claim7.holds Tryz.pinned (.plain (OpenSpec.ofChange fnSteppedSpec)) fnSteppedCard

/-- THE TIED CARD OF 'laws.FnMergedPair'. -/
def fnMergedPairCard : Claim7 := { stood := { row := fnMergedPairRow, standIns := [], harness := (true, "f9d20fe1a6826034f2a583eb89f34de8abeadbda2664eaa1a841508059e28e70"), looks := false }, kinds := [], alts := [], laidByText := true, laidKinds := [.data, .data, .data], laidTests := true, laidLooks := .later }
def FnMergedPairCardSaid : Prop := Claim7.holds Tryz.pinned (.plain (OpenSpec.ofChange fnMergedPairSpec)) fnMergedPairCard

/-- THE SECOND FORM's CARD OF 'laws.FnStepped'. -/
def fnSteppedUptoCard : Claim7 := { stood := { row := fnSteppedUptoRow, standIns := [], harness := (true, "f9d20fe1a6826034f2a583eb89f34de8abeadbda2664eaa1a841508059e28e70"), looks := false }, kinds := [], alts := [], laidByText := true, laidKinds := [.data, .data, .data], laidTests := true, laidLooks := .later }
def FnSteppedUptoCardSaid : Prop := Claim7.holds Tryz.pinned (.plain (OpenSpec.upto fnSteppedSpec)) fnSteppedUptoCard

/-- THE SECOND FORM's CARD OF 'laws.FnMergedPair'. -/
def fnMergedPairUptoCard : Claim7 := { stood := { row := fnMergedPairUptoRow, standIns := [], harness := (true, "f9d20fe1a6826034f2a583eb89f34de8abeadbda2664eaa1a841508059e28e70"), looks := false }, kinds := [], alts := [], laidByText := true, laidKinds := [.data, .data, .data], laidTests := true, laidLooks := .later }
def FnMergedPairUptoCardSaid : Prop := Claim7.holds Tryz.pinned (.plain (OpenSpec.upto fnMergedPairSpec)) fnMergedPairUptoCard
end Rows
end Go.Proofs.YtfjkpndogncdcaaGreatDoor
