/- Numbers and words are read: contracts of the reference's functions. Condition: texts are no longer than the law lets through. -/
import Derived.Test.YtgbjdifegilniaaGreatDoorParI
namespace Vg
open Go Go.Proofs
/-! ### the reference reads numbers -/
def nuX0 (s : ByteArray) : ByteArray := if 0 < s.size ∧ pB s 0 = 114 then s.extract 1 s.size else s
noncomputable def vB (s : ByteArray) : Int := (x6 (nuX0 s)).1
end Vg
