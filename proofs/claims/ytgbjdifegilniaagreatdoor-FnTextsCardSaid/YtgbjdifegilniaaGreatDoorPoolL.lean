/- Marks: contracts of the law's helpers that write counters into memory and look for them. Condition: counters stay small. -/
import Derived.Test.YtgbjdifegilniaaGreatDoorBase
import Derived.Test.YtgbjdifegilniaaGreatDoorTermI
namespace Vg
open Go Go.Proofs
theorem wr {k : Int} (h0 : 0 ≤ k) (h1 : k ≤ 2199023255552) : IntKind.i64.wrap (k + 1) = k + 1 := z1 omG omG
theorem mkw1 {k : Int} {i n : Nat} (h0 : 0 ≤ k) (h1 : k ≤ 1099511627776) (hi : i ≤ n) (hn : n ≤ 4194304) : IntKind.i64.wrap (k + 4 * (i : Nat) + 1) = k + 4 * (i : Nat) + 1 := wr omG omG
theorem w2 {k : Int} {i n : Nat} (h0 : 0 ≤ k) (h1 : k ≤ 1099511627776) (hi : i ≤ n) (hn : n ≤ 4194304) : IntKind.i64.wrap (IntKind.i64.wrap (k + 4 * (i : Nat) + 1) + 1) = k + 4 * (i : Nat) + 1 + 1 := by rw [mkw1 h0 h1 hi hn]; exact wr omG omG
theorem w3 {k : Int} {i n : Nat} (h0 : 0 ≤ k) (h1 : k ≤ 1099511627776) (hi : i ≤ n) (hn : n ≤ 4194304) : IntKind.i64.wrap (IntKind.i64.wrap (IntKind.i64.wrap (k + 4 * (i : Nat) + 1) + 1) + 1) = k + 4 * (i : Nat) + 1 + 1 + 1 := by rw [w2 h0 h1 hi hn]; exact wr omG omG
theorem w4 {k : Int} {i n : Nat} (h0 : 0 ≤ k) (h1 : k ≤ 1099511627776) (hi : i ≤ n) (hn : n ≤ 4194304) : IntKind.i64.wrap (IntKind.i64.wrap (IntKind.i64.wrap (IntKind.i64.wrap (k + 4 * (i : Nat) + 1) + 1) + 1) + 1) = k + 4 * ((i + 1 : Nat) : Int) := by rw [w3 h0 h1 hi hn, wr omG omG]; omega
theorem tk_succ {l : List V.Term} {i : Nat} (h : (i : Int) < l.length) : l.take (i + 1) = l.take i ++ [l.getD i K.terms.dflt] := by
  have h' : i < l.length := by omega
  rw [List.take_succ_eq_append_getElem h', List.getD_eq_getElem?_getD, List.getElem?_eq_getElem h']; rfl
/-! ### sizes -/
end Vg
