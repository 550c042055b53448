/-
  DERIVED. GIVEN WITH THE SEED: THE CARDS: each row of YtjlffejifadkiaaGreatDoorRows.lean that lists a variable, with what it lists TIED to the program's text (the seventh form; the later family's looks); each row that meets fmt, with fmt's text TOLD by the authors' own Lean function (tested against real Go, not proved from fmt's source: count such statements apart). THE CARD IS WHAT COUNTS. Prove the row's statement (the work); the ties are given (YtjlffejifadkiaaGreatDoorTie.lean); close each card by the builder's one call (the guide's Derived/Test/ToyasCard.lean, 'card_holds'). Laid BY PROGRAM, IN A SANDBOX (cutbox-door.mjs). By AI agents, Wed Nov 11 2026. No macro, syntax, notation, axiom, sorry.
-/
import Derived.Test.YtjlffejifadkiaaGreatDoorRows
import GoSem.ClaimSeven
namespace Go.Proofs.YtjlffejifadkiaaGreatDoor
namespace Rows

/-- THE TIED CARD OF 'laws.FnShrunk'. -/
def fnShrunkCard : Claim7 := { stood := { row := fnShrunkRow, standIns := [], harness := (true, "3cc2bd90f6ad9b6a53889b7251fc20b47be7d72d14340496cbb1df177286f7de"), looks := false }, kinds := [], alts := [], laidByText := true, laidKinds := [.data, .data, .data], laidTests := true, laidLooks := .later }
def FnShrunkCardSaid : Prop := Claim7.holds Tryz.pinned (.plain (OpenSpec.ofChange fnShrunkSpec)) fnShrunkCard

/-- THE TIED CARD OF 'laws.FnExactShrinkInputs'. -/
def fnExactShrinkInputsCard : Claim7 := { stood := { row := fnExactShrinkInputsRow, standIns := [], harness := (true, "3cc2bd90f6ad9b6a53889b7251fc20b47be7d72d14340496cbb1df177286f7de"), looks := false }, kinds := [], alts := [], laidByText := true, laidKinds := [.data, .data, .data], laidTests := true, laidLooks := .later }
def FnExactShrinkInputsCardSaid : Prop := Claim7.holds Tryz.pinned (.plain (OpenSpec.ofChange fnExactShrinkInputsSpec)) fnExactShrinkInputsCard

/-- THE TIED CARD OF 'laws.FnExactFormatPool'. -/
def fnExactFormatPoolCard : Claim7 := { stood := { row := fnExactFormatPoolRow, standIns := [], harness := (true, "3cc2bd90f6ad9b6a53889b7251fc20b47be7d72d14340496cbb1df177286f7de"), looks := false }, kinds := [], alts := [], laidByText := true, laidKinds := [.data, .data, .data], laidTests := true, laidLooks := .later }
def FnExactFormatPoolCardSaid : Prop := Claim7.holds Tryz.pinned (.plain (OpenSpec.ofChange fnExactFormatPoolSpec)) fnExactFormatPoolCard

/-- THE SECOND FORM's CARD OF 'laws.FnShrunk'. -/
def fnShrunkUptoCard : Claim7 := { stood := { row := fnShrunkUptoRow, standIns := [], harness := (true, "3cc2bd90f6ad9b6a53889b7251fc20b47be7d72d14340496cbb1df177286f7de"), looks := false }, kinds := [], alts := [], laidByText := true, laidKinds := [.data, .data, .data], laidTests := true, laidLooks := .later }
def FnShrunkUptoCardSaid : Prop := Claim7.holds Tryz.pinned (.plain (OpenSpec.upto fnShrunkSpec)) fnShrunkUptoCard

/-- THE SECOND FORM's CARD OF 'laws.FnExactShrinkInputs'. -/
def fnExactShrinkInputsUptoCard : Claim7 := { stood := { row := fnExactShrinkInputsUptoRow, standIns := [], harness := (true, "3cc2bd90f6ad9b6a53889b7251fc20b47be7d72d14340496cbb1df177286f7de"), looks := false }, kinds := [], alts := [], laidByText := true, laidKinds := [.data, .data, .data], laidTests := true, laidLooks := .later }
def FnExactShrinkInputsUptoCardSaid : Prop := Claim7.holds Tryz.pinned (.plain (OpenSpec.upto fnExactShrinkInputsSpec)) fnExactShrinkInputsUptoCard

/-- THE SECOND FORM's CARD OF 'laws.FnExactFormatPool'. -/
def fnExactFormatPoolUptoCard : Claim7 := { stood := { row := fnExactFormatPoolUptoRow, standIns := [], harness := (true, "3cc2bd90f6ad9b6a53889b7251fc20b47be7d72d14340496cbb1df177286f7de"), looks := false }, kinds := [], alts := [], laidByText := true, laidKinds := [.data, .data, .data], laidTests := true, laidLooks := .later }
def FnExactFormatPoolUptoCardSaid : Prop := Claim7.holds Tryz.pinned (.plain (OpenSpec.upto fnExactFormatPoolSpec)) fnExactFormatPoolUptoCard
end Rows
end Go.Proofs.YtjlffejifadkiaaGreatDoor
