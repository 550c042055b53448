/- Words: contract of the reference's function that cuts a text into words. Condition: texts are no longer than the law lets through. -/
import Derived.Test.YtndmanmhalpjgaaGreatDoorParS
namespace Vg
open Go Go.Proofs
def mG (s : ByteArray) : List ByteArray := ((k8 32 s.data.toList).filter (fun x => !x.isEmpty)).map mkB
section
variable {s : ByteArray} {k : Nat}
end
end Vg
