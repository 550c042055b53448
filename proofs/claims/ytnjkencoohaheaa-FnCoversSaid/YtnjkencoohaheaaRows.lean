/-
  No cell of these rows narrows 'for every input' (looked for: loops, veiled, ifaces, maps, wideKeys, modest, calm, conditions, laid).
  DERIVED. THE GIVEN ROWS OF THIS SEAT. 6 by the template 'for every input the law returns true; each argument reads behind the call as it read before'; 0 by the template 'total and deterministic' (their statements: YtnjkencoohaheaaTotals.lean).
  GIVEN WITH THE SEED: the statements are not yours to turn. If you find one false, say at which input.
  Laid BY PROGRAM, IN A SANDBOX (cutbox-rows.mjs): the forced cells as the released guide's own fill.sh prints them over the translation d70d28aafb80a9b5… (all of the seat's roots in one cut). By AI agents, Wed Nov 11 2026. No macro, syntax, notation, axiom, sorry.
-/
import Derived.Test.YtnjkencoohaheaaChecked
import GoSem.Claim
import GoSem.ClaimJoined
import GoSem.ClaimMapViews
import Derived.JoinedTies
import Derived.KernelRfl
namespace Go.Proofs.Ytnjkencoohaheaa
/- THE CELL 'sum', in the pinned program and in every row, IS THE sha256 OF THE DUMP (.gsa) THAT YtnjkencoohaheaaProg.lean LOADS. Nothing in Lean hashes anything: it is a label: what it is worth is what the hold of that sum in a sandbox is worth. -/
noncomputable def Try.pinned : Pinned := { name := "ytnjkencoohaheaa", sum := "d70d28aafb80a9b5e6a3342731da7a5b76a601434cb1fc010dddaa221c61560f", checked := Try.checked }
namespace Rows
def none {H : Type} : Left H := { results := [], args := [] }

/-- 'laws.FnMutants': WHATEVER THE INPUT: true; the input reads as it did. -/
def fnMutantsSpec : ChangeSpec := { name := "fnMutants", fn := fun _ => fun
  | [d] => { results := [.lit (.bool true)], args := [d] }
  | _ => none }
def fnMutantsRow : OpenClaim := { program := "ytnjkencoohaheaa", sum := "d70d28aafb80a9b5e6a3342731da7a5b76a601434cb1fc010dddaa221c61560f", func := "loop.example/g03219/laws.FnMutants", spec := "fnMutants", apart := false }
def FnMutantsSaid : Prop := fnMutantsRow.holds Try.pinned (OpenSpec.ofChange fnMutantsSpec)

/-- ITS FALSE NEIGHBOUR: 'it returns false'. Refute it at one input. -/
def fnMutantsWrong : ChangeSpec := { name := "fnMutants", fn := fun _ => fun
  | [d] => { results := [.lit (.bool false)], args := [d] }
  | _ => none }
def FnMutantsWrongFalsely : Prop := fnMutantsRow.holds Try.pinned (OpenSpec.ofChange fnMutantsWrong)

/-- 'laws.FnCandidates': WHATEVER THE INPUT: true; the input reads as it did. -/
def fnCandidatesSpec : ChangeSpec := { name := "fnCandidates", fn := fun _ => fun
  | [d] => { results := [.lit (.bool true)], args := [d] }
  | _ => none }
def fnCandidatesRow : OpenClaim := { program := "ytnjkencoohaheaa", sum := "d70d28aafb80a9b5e6a3342731da7a5b76a601434cb1fc010dddaa221c61560f", func := "loop.example/g03219/laws.FnCandidates", spec := "fnCandidates", apart := false }
def FnCandidatesSaid : Prop := fnCandidatesRow.holds Try.pinned (OpenSpec.ofChange fnCandidatesSpec)

/-- ITS FALSE NEIGHBOUR: 'it returns false'. Refute it at one input. -/
def fnCandidatesWrong : ChangeSpec := { name := "fnCandidates", fn := fun _ => fun
  | [d] => { results := [.lit (.bool false)], args := [d] }
  | _ => none }
def FnCandidatesWrongFalsely : Prop := fnCandidatesRow.holds Try.pinned (OpenSpec.ofChange fnCandidatesWrong)

/-- 'laws.FnRuns': WHATEVER THE INPUT: true; the input reads as it did. -/
def fnRunsSpec : ChangeSpec := { name := "fnRuns", fn := fun _ => fun
  | [d] => { results := [.lit (.bool true)], args := [d] }
  | _ => none }
def fnRunsRow : OpenClaim := { program := "ytnjkencoohaheaa", sum := "d70d28aafb80a9b5e6a3342731da7a5b76a601434cb1fc010dddaa221c61560f", func := "loop.example/g03219/laws.FnRuns", spec := "fnRuns", recurses := true, apart := false }
def FnRunsSaid : Prop := fnRunsRow.holds Try.pinned (OpenSpec.ofChange fnRunsSpec)

/-- ITS FALSE NEIGHBOUR: 'it returns false'. Refute it at one input. -/
def fnRunsWrong : ChangeSpec := { name := "fnRuns", fn := fun _ => fun
  | [d] => { results := [.lit (.bool false)], args := [d] }
  | _ => none }
def FnRunsWrongFalsely : Prop := fnRunsRow.holds Try.pinned (OpenSpec.ofChange fnRunsWrong)

/-- 'laws.FnExactCoverAll': WHATEVER THE INPUT: true; the input reads as it did. -/
def fnExactCoverAllSpec : ChangeSpec := { name := "fnExactCoverAll", fn := fun _ => fun
  | [d1, d2, d3] => { results := [.lit (.bool true)], args := [d1, d2, d3] }
  | _ => none }
def fnExactCoverAllRow : OpenClaim := { program := "ytnjkencoohaheaa", sum := "d70d28aafb80a9b5e6a3342731da7a5b76a601434cb1fc010dddaa221c61560f", func := "loop.example/g03219/laws.FnExactCoverAll", spec := "fnExactCoverAll", recurses := true, apart := false }
def FnExactCoverAllSaid : Prop := fnExactCoverAllRow.holds Try.pinned (OpenSpec.ofChange fnExactCoverAllSpec)

/-- ITS FALSE NEIGHBOUR: 'it returns false'. Refute it at one input. -/
def fnExactCoverAllWrong : ChangeSpec := { name := "fnExactCoverAll", fn := fun _ => fun
  | [d1, d2, d3] => { results := [.lit (.bool false)], args := [d1, d2, d3] }
  | _ => none }
def FnExactCoverAllWrongFalsely : Prop := fnExactCoverAllRow.holds Try.pinned (OpenSpec.ofChange fnExactCoverAllWrong)

/-- 'laws.FnCovers': WHATEVER THE INPUT: true; the input reads as it did. -/
def fnCoversSpec : ChangeSpec := { name := "fnCovers", fn := fun _ => fun
  | [d] => { results := [.lit (.bool true)], args := [d] }
  | _ => none }
def fnCoversRow : OpenClaim := { program := "ytnjkencoohaheaa", sum := "d70d28aafb80a9b5e6a3342731da7a5b76a601434cb1fc010dddaa221c61560f", func := "loop.example/g03219/laws.FnCovers", spec := "fnCovers", recurses := true, apart := false }
def FnCoversSaid : Prop := fnCoversRow.holds Try.pinned (OpenSpec.ofChange fnCoversSpec)

/-- ITS FALSE NEIGHBOUR: 'it returns false'. Refute it at one input. -/
def fnCoversWrong : ChangeSpec := { name := "fnCovers", fn := fun _ => fun
  | [d] => { results := [.lit (.bool false)], args := [d] }
  | _ => none }
def FnCoversWrongFalsely : Prop := fnCoversRow.holds Try.pinned (OpenSpec.ofChange fnCoversWrong)

/-- 'laws.FnExactSmallestSuite': WHATEVER THE INPUT: true; the input reads as it did. -/
def fnExactSmallestSuiteSpec : ChangeSpec := { name := "fnExactSmallestSuite", fn := fun _ => fun
  | [d1, d2, d3] => { results := [.lit (.bool true)], args := [d1, d2, d3] }
  | _ => none }
def fnExactSmallestSuiteRow : OpenClaim := { program := "ytnjkencoohaheaa", sum := "d70d28aafb80a9b5e6a3342731da7a5b76a601434cb1fc010dddaa221c61560f", func := "loop.example/g03219/laws.FnExactSmallestSuite", spec := "fnExactSmallestSuite", recurses := true, apart := false }
def FnExactSmallestSuiteSaid : Prop := fnExactSmallestSuiteRow.holds Try.pinned (OpenSpec.ofChange fnExactSmallestSuiteSpec)

/-- ITS FALSE NEIGHBOUR: 'it returns false'. Refute it at one input. -/
def fnExactSmallestSuiteWrong : ChangeSpec := { name := "fnExactSmallestSuite", fn := fun _ => fun
  | [d1, d2, d3] => { results := [.lit (.bool false)], args := [d1, d2, d3] }
  | _ => none }
def FnExactSmallestSuiteWrongFalsely : Prop := fnExactSmallestSuiteRow.holds Try.pinned (OpenSpec.ofChange fnExactSmallestSuiteWrong)

/- THE SECOND FORM. 'bulk': how many values and letters a reading holds, each counted each time it is reached (what is shared counts as often as it is met; a slice's spare places count too). A statement '..UptoSaid' is the law's where the arguments, and the package variables that the reading takes, are together of bulk at most 1048576: NARROWER than '..Said'. Prove '..Said' where nothing that the law and all that it calls make is longer than what came in: it says more and counts as full. Else prove '..UptoSaid'. A law counts once. -/
mutual
def uptoBulk {H : Type} : DataW H → Nat
  | .lit (.string bytes) => bytes.length + 1
  | .lit _ => 1
  | .nil => 1
  | .ptr d => uptoBulk d + 1
  | .slice elems spare => uptoBulkAll elems + uptoBulkAll spare + 1
  | .agg parts => uptoBulkAll parts + 1
  | .iface _ d => uptoBulk d + 1
  | .map entries => uptoBulkEntries entries + 1
  | .held _ => 1
def uptoBulkAll {H : Type} : List (DataW H) → Nat
  | [] => 0
  | d :: r => uptoBulk d + uptoBulkAll r
def uptoBulkEntries {H : Type} : List (Lit × DataW H) → Nat
  | [] => 0
  | x :: r => uptoBulkEntry x + uptoBulkEntries r
def uptoBulkEntry {H : Type} : Lit × DataW H → Nat
  | (.string bytes, d) => bytes.length + uptoBulk d + 1
  | (_, d) => uptoBulk d + 1
 end
def uptoSmall : (H : Type) → List (DataW H) → Bool := fun _ ds => decide (uptoBulkAll ds ≤ 1048576)
def OpenSpec.upto (s : _root_.Go.ChangeSpec) : _root_.Go.OpenSpec := { _root_.Go.OpenSpec.ofChange s with cond := some uptoSmall }

/-- 'laws.FnMutants', WHERE WHAT IT READS IS OF BULK AT MOST 1048576: true; the input reads as it did. -/
def fnMutantsUptoRow : OpenClaim := { program := "ytnjkencoohaheaa", sum := "d70d28aafb80a9b5e6a3342731da7a5b76a601434cb1fc010dddaa221c61560f", func := "loop.example/g03219/laws.FnMutants", spec := "fnMutants", apart := false, narrowed := true }
def FnMutantsUptoSaid : Prop := fnMutantsUptoRow.holds Try.pinned (OpenSpec.upto fnMutantsSpec)

/-- 'laws.FnCandidates', WHERE WHAT IT READS IS OF BULK AT MOST 1048576: true; the input reads as it did. -/
def fnCandidatesUptoRow : OpenClaim := { program := "ytnjkencoohaheaa", sum := "d70d28aafb80a9b5e6a3342731da7a5b76a601434cb1fc010dddaa221c61560f", func := "loop.example/g03219/laws.FnCandidates", spec := "fnCandidates", apart := false, narrowed := true }
def FnCandidatesUptoSaid : Prop := fnCandidatesUptoRow.holds Try.pinned (OpenSpec.upto fnCandidatesSpec)

/-- 'laws.FnRuns', WHERE WHAT IT READS IS OF BULK AT MOST 1048576: true; the input reads as it did. -/
def fnRunsUptoRow : OpenClaim := { program := "ytnjkencoohaheaa", sum := "d70d28aafb80a9b5e6a3342731da7a5b76a601434cb1fc010dddaa221c61560f", func := "loop.example/g03219/laws.FnRuns", spec := "fnRuns", recurses := true, apart := false, narrowed := true }
def FnRunsUptoSaid : Prop := fnRunsUptoRow.holds Try.pinned (OpenSpec.upto fnRunsSpec)

/-- 'laws.FnExactCoverAll', WHERE WHAT IT READS IS OF BULK AT MOST 1048576: true; the input reads as it did. -/
def fnExactCoverAllUptoRow : OpenClaim := { program := "ytnjkencoohaheaa", sum := "d70d28aafb80a9b5e6a3342731da7a5b76a601434cb1fc010dddaa221c61560f", func := "loop.example/g03219/laws.FnExactCoverAll", spec := "fnExactCoverAll", recurses := true, apart := false, narrowed := true }
def FnExactCoverAllUptoSaid : Prop := fnExactCoverAllUptoRow.holds Try.pinned (OpenSpec.upto fnExactCoverAllSpec)

/-- 'laws.FnCovers', WHERE WHAT IT READS IS OF BULK AT MOST 1048576: true; the input reads as it did. -/
def fnCoversUptoRow : OpenClaim := { program := "ytnjkencoohaheaa", sum := "d70d28aafb80a9b5e6a3342731da7a5b76a601434cb1fc010dddaa221c61560f", func := "loop.example/g03219/laws.FnCovers", spec := "fnCovers", recurses := true, apart := false, narrowed := true }
def FnCoversUptoSaid : Prop := fnCoversUptoRow.holds Try.pinned (OpenSpec.upto fnCoversSpec)

/-- 'laws.FnExactSmallestSuite', WHERE WHAT IT READS IS OF BULK AT MOST 1048576: true; the input reads as it did. -/
def fnExactSmallestSuiteUptoRow : OpenClaim := { program := "ytnjkencoohaheaa", sum := "d70d28aafb80a9b5e6a3342731da7a5b76a601434cb1fc010dddaa221c61560f", func := "loop.example/g03219/laws.FnExactSmallestSuite", spec := "fnExactSmallestSuite", recurses := true, apart := false, narrowed := true }
def FnExactSmallestSuiteUptoSaid : Prop := fnExactSmallestSuiteUptoRow.holds Try.pinned (OpenSpec.upto fnExactSmallestSuiteSpec)

end Rows
end Go.Proofs.Ytnjkencoohaheaa
