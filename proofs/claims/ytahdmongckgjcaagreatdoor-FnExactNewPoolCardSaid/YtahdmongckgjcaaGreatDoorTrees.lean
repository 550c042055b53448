/- Slices of slices in memory of their own: contracts. Condition: lists are no longer than the law lets through. -/
import Derived.Test.YtahdmongckgjcaaGreatDoorMark
import Derived.Test.YtahdmongckgjcaaGreatDoorSess
namespace Vg
open Go Go.Proofs
theorem tree_fin {T : Nat} {κ : K} {l l' : List κ.T} (h : l = l') : [Blk.tree T κ l] = [Blk.tree T κ l'] := by rw [h]
end Vg
