/-
  DERIVED. GIVEN WITH THE SEED: THE CARDS: each row of YtlopkgjiccppfaaDoorRows.lean that lists a variable, with what it lists TIED to the program's text (the seventh form; the later family's looks); each row that meets fmt, with fmt's text TOLD by the authors' own Lean function (tested against real Go, not proved from fmt's source: count such statements apart). THE CARD IS WHAT COUNTS. Prove the row's statement (the work); the ties are given (YtlopkgjiccppfaaDoorTie.lean); close each card by the builder's one call (the guide's Derived/Test/ToyasCard.lean, 'card_holds'). Laid BY PROGRAM, IN A SANDBOX (cutbox-door.mjs). By AI agents, Wed Nov 11 2026. No macro, syntax, notation, axiom, sorry.
-/
import Derived.Test.YtlopkgjiccppfaaDoorRows
import GoSem.ClaimSeven
namespace Go.Proofs.YtlopkgjiccppfaaDoor
namespace Rows

/-- THE TIED CARD OF 'laws.FnExactFormatFact'. -/
def fnExactFormatFactCard : Claim7 := { stood := { row := fnExactFormatFactRow, standIns := [], harness := (true, "8cb554c8dd195cbafa58b8aba82aac3b568fcdabe55b36d7bc5ddfe622474c4b"), looks := true }, kinds := [], alts := [], laidByText := true, laidKinds := [.data, .data, .data], laidTests := true, laidLooks := .later }
def FnExactFormatFactCardSaid : Prop := Claim7.holds Tryd.pinned (.plain (OpenSpec.ofChange fnExactFormatFactSpec)) fnExactFormatFactCard

/-- THE TIED CARD OF 'laws.FnExactParseFact'. -/
def fnExactParseFactCard : Claim7 := { stood := { row := fnExactParseFactRow, standIns := [], harness := (true, "8cb554c8dd195cbafa58b8aba82aac3b568fcdabe55b36d7bc5ddfe622474c4b"), looks := true }, kinds := [], alts := [], laidByText := true, laidKinds := [.data, .data, .data, .data, .sentinel, .sentinel, .pinned], laidTests := true, laidLooks := .later }
def FnExactParseFactCardSaid : Prop := Claim7.holds Tryd.pinned (.plain (OpenSpec.ofChange fnExactParseFactSpec)) fnExactParseFactCard

/-- THE SECOND FORM's CARD OF 'laws.FnExactFormatFact'. -/
def fnExactFormatFactUptoCard : Claim7 := { stood := { row := fnExactFormatFactUptoRow, standIns := [], harness := (true, "8cb554c8dd195cbafa58b8aba82aac3b568fcdabe55b36d7bc5ddfe622474c4b"), looks := true }, kinds := [], alts := [], laidByText := true, laidKinds := [.data, .data, .data], laidTests := true, laidLooks := .later }
def FnExactFormatFactUptoCardSaid : Prop := Claim7.holds Tryd.pinned (.plain (OpenSpec.upto fnExactFormatFactSpec)) fnExactFormatFactUptoCard

/-- THE SECOND FORM's CARD OF 'laws.FnExactParseFact'. -/
def fnExactParseFactUptoCard : Claim7 := { stood := { row := fnExactParseFactUptoRow, standIns := [], harness := (true, "8cb554c8dd195cbafa58b8aba82aac3b568fcdabe55b36d7bc5ddfe622474c4b"), looks := true }, kinds := [], alts := [], laidByText := true, laidKinds := [.data, .data, .data, .data, .sentinel, .sentinel, .pinned], laidTests := true, laidLooks := .later }
def FnExactParseFactUptoCardSaid : Prop := Claim7.holds Tryd.pinned (.plain (OpenSpec.upto fnExactParseFactSpec)) fnExactParseFactUptoCard
end Rows
end Go.Proofs.YtlopkgjiccppfaaDoor
