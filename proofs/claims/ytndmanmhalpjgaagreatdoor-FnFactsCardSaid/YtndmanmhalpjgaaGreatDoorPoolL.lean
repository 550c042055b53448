/- Marks: contracts of the law's helpers that write counters into memory and look for them. Condition: counters stay small. -/
import Derived.Test.YtndmanmhalpjgaaGreatDoorBase
import Derived.Test.YtndmanmhalpjgaaGreatDoorSess
namespace Vg
open Go Go.Proofs
theorem wr {k : Int} (h0 : 0 ≤ k) (h1 : k ≤ 2199023255552) : IntKind.i64.wrap (k + 1) = k + 1 := u4 omG omG
theorem mkw1 {k : Int} {i n : Nat} (h0 : 0 ≤ k) (h1 : k ≤ 1099511627776) (hi : i ≤ n) (hn : n ≤ 4194304) : IntKind.i64.wrap (k + 4 * (i : Nat) + 1) = k + 4 * (i : Nat) + 1 := wr omG omG
theorem w2 {k : Int} {i n : Nat} (h0 : 0 ≤ k) (h1 : k ≤ 1099511627776) (hi : i ≤ n) (hn : n ≤ 4194304) : IntKind.i64.wrap (IntKind.i64.wrap (k + 4 * (i : Nat) + 1) + 1) = k + 4 * (i : Nat) + 1 + 1 := by rw [mkw1 h0 h1 hi hn]; exact wr omG omG
theorem w3 {k : Int} {i n : Nat} (h0 : 0 ≤ k) (h1 : k ≤ 1099511627776) (hi : i ≤ n) (hn : n ≤ 4194304) : IntKind.i64.wrap (IntKind.i64.wrap (IntKind.i64.wrap (k + 4 * (i : Nat) + 1) + 1) + 1) = k + 4 * (i : Nat) + 1 + 1 + 1 := by rw [w2 h0 h1 hi hn]; exact wr omG omG
theorem w4 {k : Int} {i n : Nat} (h0 : 0 ≤ k) (h1 : k ≤ 1099511627776) (hi : i ≤ n) (hn : n ≤ 4194304) : IntKind.i64.wrap (IntKind.i64.wrap (IntKind.i64.wrap (IntKind.i64.wrap (k + 4 * (i : Nat) + 1) + 1) + 1) + 1) = k + 4 * ((i + 1 : Nat) : Int) := by rw [w3 h0 h1 hi hn, wr omG omG]; omega
theorem eW {T : Nat} {κ : K} {l l' : List κ.T} (h : l = l') : [Blk.tree T κ l] = [Blk.tree T κ l'] := by rw [h]
end Vg
