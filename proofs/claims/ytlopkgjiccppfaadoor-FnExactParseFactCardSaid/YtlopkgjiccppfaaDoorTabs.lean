/- The library's tables that a contract may lean on: the powers of ten (variable 1 of the seat's program), the errors of strconv (4, 5), the length that the search reads (0). No condition. -/
import Derived.Calls
import Derived.Lib.ItoaNum
namespace Vg
open Go
/-- tables: the number of the variable and what its cells hold -/
def tabCells : List (Nat × List Value) := [(1, Lib.pow10Tab.map (Value.int .u64))]
/-- the library's errors: the numbers of the variables -/
def errCells : List Nat := [4, 5]
/-- variables that hold some number -/
def numCells : List Nat := [0]
end Vg
