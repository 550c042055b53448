/-
  No cell of these rows narrows 'for every input' (looked for: loops, veiled, ifaces, maps, wideKeys, modest, calm, conditions, laid).
  DERIVED. THE GIVEN ROWS OF THIS SEAT. 6 by the template 'for every input the law returns true; each argument reads behind the call as it read before'; 0 by the template 'total and deterministic' (their statements: YtihedolalablgaaTotals.lean).
  GIVEN WITH THE SEED: the statements are not yours to turn. If you find one false, say at which input.
  Laid BY PROGRAM, IN A SANDBOX (cutbox-rows.mjs): the forced cells as the released guide's own fill.sh prints them over the translation 4e1b4d4fb119f99d… (all of the seat's roots in one cut). By AI agents, Wed Nov 11 2026. No macro, syntax, notation, axiom, sorry.
-/
import Derived.Test.YtihedolalablgaaChecked
import GoSem.Claim
import GoSem.ClaimJoined
import GoSem.ClaimMapViews
import Derived.JoinedTies
import Derived.KernelRfl
namespace Go.Proofs.Ytihedolalablgaa
/- THE CELL 'sum', in the pinned program and in every row, IS THE sha256 OF THE DUMP (.gsa) THAT YtihedolalablgaaProg.lean LOADS. Nothing in Lean hashes anything: it is a label: what it is worth is what the hold of that sum in a sandbox is worth. -/
noncomputable def Try.pinned : Pinned := { name := "ytihedolalablgaa", sum := "4e1b4d4fb119f99d443fdcb4c5dc9e272a0e2955f710f31d334a8a120d0b66e5", checked := Try.checked }
namespace Rows
def none {H : Type} : Left H := { results := [], args := [] }

/-- 'laws.FnExactNewSession': WHATEVER THE INPUT: true; the input reads as it did. -/
def fnExactNewSessionSpec : ChangeSpec := { name := "fnExactNewSession", fn := fun _ => fun
  | [] => { results := [.lit (.bool true)], args := [] }
  | _ => none }
def fnExactNewSessionRow : OpenClaim := { program := "ytihedolalablgaa", sum := "4e1b4d4fb119f99d443fdcb4c5dc9e272a0e2955f710f31d334a8a120d0b66e5", func := "loop.example/g03219/laws.FnExactNewSession", spec := "fnExactNewSession", apart := false }
def FnExactNewSessionSaid : Prop := fnExactNewSessionRow.holds Try.pinned (OpenSpec.ofChange fnExactNewSessionSpec)

/-- ITS FALSE NEIGHBOUR: 'it returns false'. Refute it at one input. -/
def fnExactNewSessionWrong : ChangeSpec := { name := "fnExactNewSession", fn := fun _ => fun
  | [] => { results := [.lit (.bool false)], args := [] }
  | _ => none }
def FnExactNewSessionWrongFalsely : Prop := fnExactNewSessionRow.holds Try.pinned (OpenSpec.ofChange fnExactNewSessionWrong)

/-- 'laws.FnExactFactOk': WHATEVER THE INPUT: true; the input reads as it did. -/
def fnExactFactOkSpec : ChangeSpec := { name := "fnExactFactOk", fn := fun _ => fun
  | [d1, d2] => { results := [.lit (.bool true)], args := [d1, d2] }
  | _ => none }
def fnExactFactOkRow : OpenClaim := { program := "ytihedolalablgaa", sum := "4e1b4d4fb119f99d443fdcb4c5dc9e272a0e2955f710f31d334a8a120d0b66e5", func := "loop.example/g03219/laws.FnExactFactOk", spec := "fnExactFactOk", apart := false }
def FnExactFactOkSaid : Prop := fnExactFactOkRow.holds Try.pinned (OpenSpec.ofChange fnExactFactOkSpec)

/-- ITS FALSE NEIGHBOUR: 'it returns false'. Refute it at one input. -/
def fnExactFactOkWrong : ChangeSpec := { name := "fnExactFactOk", fn := fun _ => fun
  | [d1, d2] => { results := [.lit (.bool false)], args := [d1, d2] }
  | _ => none }
def FnExactFactOkWrongFalsely : Prop := fnExactFactOkRow.holds Try.pinned (OpenSpec.ofChange fnExactFactOkWrong)

/-- 'laws.FnExactBranchesOf': WHATEVER THE INPUT: true; the input reads as it did. -/
def fnExactBranchesOfSpec : ChangeSpec := { name := "fnExactBranchesOf", fn := fun _ => fun
  | [d] => { results := [.lit (.bool true)], args := [d] }
  | _ => none }
def fnExactBranchesOfRow : OpenClaim := { program := "ytihedolalablgaa", sum := "4e1b4d4fb119f99d443fdcb4c5dc9e272a0e2955f710f31d334a8a120d0b66e5", func := "loop.example/g03219/laws.FnExactBranchesOf", spec := "fnExactBranchesOf", apart := false }
def FnExactBranchesOfSaid : Prop := fnExactBranchesOfRow.holds Try.pinned (OpenSpec.ofChange fnExactBranchesOfSpec)

/-- ITS FALSE NEIGHBOUR: 'it returns false'. Refute it at one input. -/
def fnExactBranchesOfWrong : ChangeSpec := { name := "fnExactBranchesOf", fn := fun _ => fun
  | [d] => { results := [.lit (.bool false)], args := [d] }
  | _ => none }
def FnExactBranchesOfWrongFalsely : Prop := fnExactBranchesOfRow.holds Try.pinned (OpenSpec.ofChange fnExactBranchesOfWrong)

/-- 'laws.FnExactSessionOk': WHATEVER THE INPUT: true; the input reads as it did. -/
def fnExactSessionOkSpec : ChangeSpec := { name := "fnExactSessionOk", fn := fun _ => fun
  | [d] => { results := [.lit (.bool true)], args := [d] }
  | _ => none }
def fnExactSessionOkRow : OpenClaim := { program := "ytihedolalablgaa", sum := "4e1b4d4fb119f99d443fdcb4c5dc9e272a0e2955f710f31d334a8a120d0b66e5", func := "loop.example/g03219/laws.FnExactSessionOk", spec := "fnExactSessionOk", apart := false }
def FnExactSessionOkSaid : Prop := fnExactSessionOkRow.holds Try.pinned (OpenSpec.ofChange fnExactSessionOkSpec)

/-- ITS FALSE NEIGHBOUR: 'it returns false'. Refute it at one input. -/
def fnExactSessionOkWrong : ChangeSpec := { name := "fnExactSessionOk", fn := fun _ => fun
  | [d] => { results := [.lit (.bool false)], args := [d] }
  | _ => none }
def FnExactSessionOkWrongFalsely : Prop := fnExactSessionOkRow.holds Try.pinned (OpenSpec.ofChange fnExactSessionOkWrong)

/-- 'laws.FnExactFactHolds': WHATEVER THE INPUT: true; the input reads as it did. -/
def fnExactFactHoldsSpec : ChangeSpec := { name := "fnExactFactHolds", fn := fun _ => fun
  | [d1, d2, d3] => { results := [.lit (.bool true)], args := [d1, d2, d3] }
  | _ => none }
def fnExactFactHoldsRow : OpenClaim := { program := "ytihedolalablgaa", sum := "4e1b4d4fb119f99d443fdcb4c5dc9e272a0e2955f710f31d334a8a120d0b66e5", func := "loop.example/g03219/laws.FnExactFactHolds", spec := "fnExactFactHolds", apart := false }
def FnExactFactHoldsSaid : Prop := fnExactFactHoldsRow.holds Try.pinned (OpenSpec.ofChange fnExactFactHoldsSpec)

/-- ITS FALSE NEIGHBOUR: 'it returns false'. Refute it at one input. -/
def fnExactFactHoldsWrong : ChangeSpec := { name := "fnExactFactHolds", fn := fun _ => fun
  | [d1, d2, d3] => { results := [.lit (.bool false)], args := [d1, d2, d3] }
  | _ => none }
def FnExactFactHoldsWrongFalsely : Prop := fnExactFactHoldsRow.holds Try.pinned (OpenSpec.ofChange fnExactFactHoldsWrong)

/-- 'laws.FnExactMutantsOf': WHATEVER THE INPUT: true; the input reads as it did. -/
def fnExactMutantsOfSpec : ChangeSpec := { name := "fnExactMutantsOf", fn := fun _ => fun
  | [d] => { results := [.lit (.bool true)], args := [d] }
  | _ => none }
def fnExactMutantsOfRow : OpenClaim := { program := "ytihedolalablgaa", sum := "4e1b4d4fb119f99d443fdcb4c5dc9e272a0e2955f710f31d334a8a120d0b66e5", func := "loop.example/g03219/laws.FnExactMutantsOf", spec := "fnExactMutantsOf", apart := false }
def FnExactMutantsOfSaid : Prop := fnExactMutantsOfRow.holds Try.pinned (OpenSpec.ofChange fnExactMutantsOfSpec)

/-- ITS FALSE NEIGHBOUR: 'it returns false'. Refute it at one input. -/
def fnExactMutantsOfWrong : ChangeSpec := { name := "fnExactMutantsOf", fn := fun _ => fun
  | [d] => { results := [.lit (.bool false)], args := [d] }
  | _ => none }
def FnExactMutantsOfWrongFalsely : Prop := fnExactMutantsOfRow.holds Try.pinned (OpenSpec.ofChange fnExactMutantsOfWrong)

/- THE SECOND FORM. 'bulk': how many values and letters a reading holds, each counted each time it is reached (what is shared counts as often as it is met; a slice's spare places count too). A statement '..UptoSaid' is the law's where the arguments, and the package variables that the reading takes, are together of bulk at most 1048576: NARROWER than '..Said'. Prove '..Said' where nothing that the law and all that it calls make is longer than what came in: it says more and counts as full. Else prove '..UptoSaid'. A law counts once. -/
mutual
def uptoBulk {H : Type} : DataW H → Nat
  | .lit (.string bytes) => bytes.length + 1
  | .lit _ => 1
  | .nil => 1
  | .ptr d => uptoBulk d + 1
  | .slice elems spare => uptoBulkAll elems + uptoBulkAll spare + 1
  | .agg parts => uptoBulkAll parts + 1
  | .iface _ d => uptoBulk d + 1
  | .map entries => uptoBulkEntries entries + 1
  | .held _ => 1
def uptoBulkAll {H : Type} : List (DataW H) → Nat
  | [] => 0
  | d :: r => uptoBulk d + uptoBulkAll r
def uptoBulkEntries {H : Type} : List (Lit × DataW H) → Nat
  | [] => 0
  | x :: r => uptoBulkEntry x + uptoBulkEntries r
def uptoBulkEntry {H : Type} : Lit × DataW H → Nat
  | (.string bytes, d) => bytes.length + uptoBulk d + 1
  | (_, d) => uptoBulk d + 1
 end
def uptoSmall : (H : Type) → List (DataW H) → Bool := fun _ ds => decide (uptoBulkAll ds ≤ 1048576)
def OpenSpec.upto (s : _root_.Go.ChangeSpec) : _root_.Go.OpenSpec := { _root_.Go.OpenSpec.ofChange s with cond := some uptoSmall }

/-- 'laws.FnExactNewSession', WHERE WHAT IT READS IS OF BULK AT MOST 1048576: true; the input reads as it did. -/
def fnExactNewSessionUptoRow : OpenClaim := { program := "ytihedolalablgaa", sum := "4e1b4d4fb119f99d443fdcb4c5dc9e272a0e2955f710f31d334a8a120d0b66e5", func := "loop.example/g03219/laws.FnExactNewSession", spec := "fnExactNewSession", apart := false, narrowed := true }
def FnExactNewSessionUptoSaid : Prop := fnExactNewSessionUptoRow.holds Try.pinned (OpenSpec.upto fnExactNewSessionSpec)

/-- 'laws.FnExactFactOk', WHERE WHAT IT READS IS OF BULK AT MOST 1048576: true; the input reads as it did. -/
def fnExactFactOkUptoRow : OpenClaim := { program := "ytihedolalablgaa", sum := "4e1b4d4fb119f99d443fdcb4c5dc9e272a0e2955f710f31d334a8a120d0b66e5", func := "loop.example/g03219/laws.FnExactFactOk", spec := "fnExactFactOk", apart := false, narrowed := true }
def FnExactFactOkUptoSaid : Prop := fnExactFactOkUptoRow.holds Try.pinned (OpenSpec.upto fnExactFactOkSpec)

/-- 'laws.FnExactBranchesOf', WHERE WHAT IT READS IS OF BULK AT MOST 1048576: true; the input reads as it did. -/
def fnExactBranchesOfUptoRow : OpenClaim := { program := "ytihedolalablgaa", sum := "4e1b4d4fb119f99d443fdcb4c5dc9e272a0e2955f710f31d334a8a120d0b66e5", func := "loop.example/g03219/laws.FnExactBranchesOf", spec := "fnExactBranchesOf", apart := false, narrowed := true }
def FnExactBranchesOfUptoSaid : Prop := fnExactBranchesOfUptoRow.holds Try.pinned (OpenSpec.upto fnExactBranchesOfSpec)

/-- 'laws.FnExactSessionOk', WHERE WHAT IT READS IS OF BULK AT MOST 1048576: true; the input reads as it did. -/
def fnExactSessionOkUptoRow : OpenClaim := { program := "ytihedolalablgaa", sum := "4e1b4d4fb119f99d443fdcb4c5dc9e272a0e2955f710f31d334a8a120d0b66e5", func := "loop.example/g03219/laws.FnExactSessionOk", spec := "fnExactSessionOk", apart := false, narrowed := true }
def FnExactSessionOkUptoSaid : Prop := fnExactSessionOkUptoRow.holds Try.pinned (OpenSpec.upto fnExactSessionOkSpec)

/-- 'laws.FnExactFactHolds', WHERE WHAT IT READS IS OF BULK AT MOST 1048576: true; the input reads as it did. -/
def fnExactFactHoldsUptoRow : OpenClaim := { program := "ytihedolalablgaa", sum := "4e1b4d4fb119f99d443fdcb4c5dc9e272a0e2955f710f31d334a8a120d0b66e5", func := "loop.example/g03219/laws.FnExactFactHolds", spec := "fnExactFactHolds", apart := false, narrowed := true }
def FnExactFactHoldsUptoSaid : Prop := fnExactFactHoldsUptoRow.holds Try.pinned (OpenSpec.upto fnExactFactHoldsSpec)

/-- 'laws.FnExactMutantsOf', WHERE WHAT IT READS IS OF BULK AT MOST 1048576: true; the input reads as it did. -/
def fnExactMutantsOfUptoRow : OpenClaim := { program := "ytihedolalablgaa", sum := "4e1b4d4fb119f99d443fdcb4c5dc9e272a0e2955f710f31d334a8a120d0b66e5", func := "loop.example/g03219/laws.FnExactMutantsOf", spec := "fnExactMutantsOf", apart := false, narrowed := true }
def FnExactMutantsOfUptoSaid : Prop := fnExactMutantsOfUptoRow.holds Try.pinned (OpenSpec.upto fnExactMutantsOfSpec)

end Rows
end Go.Proofs.Ytihedolalablgaa
