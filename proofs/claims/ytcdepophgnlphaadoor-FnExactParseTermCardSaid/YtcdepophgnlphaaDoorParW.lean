/- Words: contract of the reference's function that cuts a text into words. Condition: texts are no longer than the law lets through. -/
import Derived.Test.YtcdepophgnlphaaDoorParS
namespace Vg
open Go Go.Proofs
def pF (s : ByteArray) : List ByteArray := ((m9 32 s.data.toList).filter (fun x => !x.isEmpty)).map m0
section
variable {s : ByteArray} {k : Nat}
end
end Vg
