/- The reference's reader of terms (as a plain function on words): it reads the words of a term back; the text of a term is split into its words. No condition. -/
import Derived.Test.YtgbjdifegilniaaGreatDoorTxtQ
namespace Vg
open Go Go.Proofs
/-! ### words -/
/-! ### the reader: what is left, or nothing behind a fault -/
abbrev Wds := Option (List Bs)
def nxR : Wds → Bs × Wds
  | some (x :: l) => (x, some l)
  | _ => ([], none)
noncomputable def intS (st : Wds) : Int × Wds := ((s9 (nxR st).1).1, if (s9 (nxR st).1).2 = true then (nxR st).2 else none)
end Vg
