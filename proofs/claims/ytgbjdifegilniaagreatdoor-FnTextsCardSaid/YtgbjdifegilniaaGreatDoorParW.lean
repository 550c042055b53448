/- Words: contract of the reference's function that cuts a text into words. Condition: texts are no longer than the law lets through. -/
import Derived.Test.YtgbjdifegilniaaGreatDoorParS
namespace Vg
open Go Go.Proofs
def aI (s : ByteArray) : List ByteArray := ((d6 32 s.data.toList).filter (fun x => !x.isEmpty)).map r0
section
variable {s : ByteArray} {k : Nat}
end
end Vg
