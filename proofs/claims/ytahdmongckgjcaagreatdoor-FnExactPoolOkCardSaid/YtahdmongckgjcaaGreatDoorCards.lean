/-
  DERIVED. GIVEN WITH THE SEED: THE CARDS: each row of YtahdmongckgjcaaGreatDoorRows.lean that lists a variable, with what it lists TIED to the program's text (the seventh form; the later family's looks); each row that meets fmt, with fmt's text TOLD by the authors' own Lean function (tested against real Go, not proved from fmt's source: count such statements apart). THE CARD IS WHAT COUNTS. Prove the row's statement (the work); the ties are given (YtahdmongckgjcaaGreatDoorTie.lean); close each card by the builder's one call (the guide's Derived/Test/ToyasCard.lean, 'card_holds'). Laid BY PROGRAM, IN A SANDBOX (cutbox-door.mjs). By AI agents, Wed Nov 11 2026. No macro, syntax, notation, axiom, sorry.
-/
import Derived.Test.YtahdmongckgjcaaGreatDoorRows
import GoSem.ClaimSeven
namespace Go.Proofs.YtahdmongckgjcaaGreatDoor
namespace Rows

/-- THE TIED CARD OF 'laws.FnExactNewPool'. -/
def fnExactNewPoolCard : Claim7 := { stood := { row := fnExactNewPoolRow, standIns := [], harness := (true, "52b4bc993f5d5f7aaec01000c376f95d4b95134991a8fc0771af5541d4109c67"), looks := false }, kinds := [], alts := [], laidByText := true, laidKinds := [.data, .data, .data], laidTests := true, laidLooks := .later }
def FnExactNewPoolCardSaid : Prop := Claim7.holds Tryz.pinned (.plain (OpenSpec.ofChange fnExactNewPoolSpec)) fnExactNewPoolCard

/-- THE TIED CARD OF 'laws.FnExactPoolOk'. -/
def fnExactPoolOkCard : Claim7 := { stood := { row := fnExactPoolOkRow, standIns := [], harness := (true, "52b4bc993f5d5f7aaec01000c376f95d4b95134991a8fc0771af5541d4109c67"), looks := false }, kinds := [], alts := [], laidByText := true, laidKinds := [.data, .data, .data], laidTests := true, laidLooks := .later }
def FnExactPoolOkCardSaid : Prop := Claim7.holds Tryz.pinned (.plain (OpenSpec.ofChange fnExactPoolOkSpec)) fnExactPoolOkCard

/-- THE TIED CARD OF 'laws.FnExactFormatPool'. -/
def fnExactFormatPoolCard : Claim7 := { stood := { row := fnExactFormatPoolRow, standIns := [], harness := (true, "52b4bc993f5d5f7aaec01000c376f95d4b95134991a8fc0771af5541d4109c67"), looks := false }, kinds := [], alts := [], laidByText := true, laidKinds := [.data, .data, .data], laidTests := true, laidLooks := .later }
def FnExactFormatPoolCardSaid : Prop := Claim7.holds Tryz.pinned (.plain (OpenSpec.ofChange fnExactFormatPoolSpec)) fnExactFormatPoolCard

/-- THE TIED CARD OF 'laws.FnExactCrashWorker'. -/
def fnExactCrashWorkerCard : Claim7 := { stood := { row := fnExactCrashWorkerRow, standIns := [], harness := (true, "52b4bc993f5d5f7aaec01000c376f95d4b95134991a8fc0771af5541d4109c67"), looks := false }, kinds := [], alts := [], laidByText := true, laidKinds := [.data, .data, .data], laidTests := true, laidLooks := .later }
def FnExactCrashWorkerCardSaid : Prop := Claim7.holds Tryz.pinned (.plain (OpenSpec.ofChange fnExactCrashWorkerSpec)) fnExactCrashWorkerCard

/-- THE TIED CARD OF 'laws.FnExactTakeJob'. -/
def fnExactTakeJobCard : Claim7 := { stood := { row := fnExactTakeJobRow, standIns := [], harness := (true, "52b4bc993f5d5f7aaec01000c376f95d4b95134991a8fc0771af5541d4109c67"), looks := false }, kinds := [], alts := [], laidByText := true, laidKinds := [.data, .data, .data], laidTests := true, laidLooks := .later }
def FnExactTakeJobCardSaid : Prop := Claim7.holds Tryz.pinned (.plain (OpenSpec.ofChange fnExactTakeJobSpec)) fnExactTakeJobCard

/-- THE TIED CARD OF 'laws.FnExactFinishJob'. -/
def fnExactFinishJobCard : Claim7 := { stood := { row := fnExactFinishJobRow, standIns := [], harness := (true, "52b4bc993f5d5f7aaec01000c376f95d4b95134991a8fc0771af5541d4109c67"), looks := false }, kinds := [], alts := [], laidByText := true, laidKinds := [.data, .data, .data], laidTests := true, laidLooks := .later }
def FnExactFinishJobCardSaid : Prop := Claim7.holds Tryz.pinned (.plain (OpenSpec.ofChange fnExactFinishJobSpec)) fnExactFinishJobCard

/-- THE TIED CARD OF 'laws.FnExactRunPool'. -/
def fnExactRunPoolCard : Claim7 := { stood := { row := fnExactRunPoolRow, standIns := [], harness := (true, "52b4bc993f5d5f7aaec01000c376f95d4b95134991a8fc0771af5541d4109c67"), looks := false }, kinds := [], alts := [], laidByText := true, laidKinds := [.data, .data, .data], laidTests := true, laidLooks := .later }
def FnExactRunPoolCardSaid : Prop := Claim7.holds Tryz.pinned (.plain (OpenSpec.ofChange fnExactRunPoolSpec)) fnExactRunPoolCard

/-- THE SECOND FORM's CARD OF 'laws.FnExactNewPool'. -/
def fnExactNewPoolUptoCard : Claim7 := { stood := { row := fnExactNewPoolUptoRow, standIns := [], harness := (true, "52b4bc993f5d5f7aaec01000c376f95d4b95134991a8fc0771af5541d4109c67"), looks := false }, kinds := [], alts := [], laidByText := true, laidKinds := [.data, .data, .data], laidTests := true, laidLooks := .later }
def FnExactNewPoolUptoCardSaid : Prop := Claim7.holds Tryz.pinned (.plain (OpenSpec.upto fnExactNewPoolSpec)) fnExactNewPoolUptoCard

/-- THE SECOND FORM's CARD OF 'laws.FnExactPoolOk'. -/
def fnExactPoolOkUptoCard : Claim7 := { stood := { row := fnExactPoolOkUptoRow, standIns := [], harness := (true, "52b4bc993f5d5f7aaec01000c376f95d4b95134991a8fc0771af5541d4109c67"), looks := false }, kinds := [], alts := [], laidByText := true, laidKinds := [.data, .data, .data], laidTests := true, laidLooks := .later }
def FnExactPoolOkUptoCardSaid : Prop := Claim7.holds Tryz.pinned (.plain (OpenSpec.upto fnExactPoolOkSpec)) fnExactPoolOkUptoCard

/-- THE SECOND FORM's CARD OF 'laws.FnExactFormatPool'. -/
def fnExactFormatPoolUptoCard : Claim7 := { stood := { row := fnExactFormatPoolUptoRow, standIns := [], harness := (true, "52b4bc993f5d5f7aaec01000c376f95d4b95134991a8fc0771af5541d4109c67"), looks := false }, kinds := [], alts := [], laidByText := true, laidKinds := [.data, .data, .data], laidTests := true, laidLooks := .later }
def FnExactFormatPoolUptoCardSaid : Prop := Claim7.holds Tryz.pinned (.plain (OpenSpec.upto fnExactFormatPoolSpec)) fnExactFormatPoolUptoCard

/-- THE SECOND FORM's CARD OF 'laws.FnExactCrashWorker'. -/
def fnExactCrashWorkerUptoCard : Claim7 := { stood := { row := fnExactCrashWorkerUptoRow, standIns := [], harness := (true, "52b4bc993f5d5f7aaec01000c376f95d4b95134991a8fc0771af5541d4109c67"), looks := false }, kinds := [], alts := [], laidByText := true, laidKinds := [.data, .data, .data], laidTests := true, laidLooks := .later }
def FnExactCrashWorkerUptoCardSaid : Prop := Claim7.holds Tryz.pinned (.plain (OpenSpec.upto fnExactCrashWorkerSpec)) fnExactCrashWorkerUptoCard

/-- THE SECOND FORM's CARD OF 'laws.FnExactTakeJob'. -/
def fnExactTakeJobUptoCard : Claim7 := { stood := { row := fnExactTakeJobUptoRow, standIns := [], harness := (true, "52b4bc993f5d5f7aaec01000c376f95d4b95134991a8fc0771af5541d4109c67"), looks := false }, kinds := [], alts := [], laidByText := true, laidKinds := [.data, .data, .data], laidTests := true, laidLooks := .later }
def FnExactTakeJobUptoCardSaid : Prop := Claim7.holds Tryz.pinned (.plain (OpenSpec.upto fnExactTakeJobSpec)) fnExactTakeJobUptoCard

/-- THE SECOND FORM's CARD OF 'laws.FnExactFinishJob'. -/
def fnExactFinishJobUptoCard : Claim7 := { stood := { row := fnExactFinishJobUptoRow, standIns := [], harness := (true, "52b4bc993f5d5f7aaec01000c376f95d4b95134991a8fc0771af5541d4109c67"), looks := false }, kinds := [], alts := [], laidByText := true, laidKinds := [.data, .data, .data], laidTests := true, laidLooks := .later }
def FnExactFinishJobUptoCardSaid : Prop := Claim7.holds Tryz.pinned (.plain (OpenSpec.upto fnExactFinishJobSpec)) fnExactFinishJobUptoCard

/-- THE SECOND FORM's CARD OF 'laws.FnExactRunPool'. -/
def fnExactRunPoolUptoCard : Claim7 := { stood := { row := fnExactRunPoolUptoRow, standIns := [], harness := (true, "52b4bc993f5d5f7aaec01000c376f95d4b95134991a8fc0771af5541d4109c67"), looks := false }, kinds := [], alts := [], laidByText := true, laidKinds := [.data, .data, .data], laidTests := true, laidLooks := .later }
def FnExactRunPoolUptoCardSaid : Prop := Claim7.holds Tryz.pinned (.plain (OpenSpec.upto fnExactRunPoolSpec)) fnExactRunPoolUptoCard
end Rows
end Go.Proofs.YtahdmongckgjcaaGreatDoor
