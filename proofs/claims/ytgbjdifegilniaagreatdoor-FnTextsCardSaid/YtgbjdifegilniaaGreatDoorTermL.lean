/- Terms in the laws: sizes, copies, comparisons. Condition: terms are no larger than the law lets through. -/
import Derived.Test.YtgbjdifegilniaaGreatDoorPoolL
import Derived.Test.YtgbjdifegilniaaGreatDoorBase
import Derived.Test.YtgbjdifegilniaaGreatDoorTermI
namespace Vg
open Go Go.Proofs
/-! ### sizes -/
theorem sz_el {l : List V.Term} {k m : Nat} (h : (k : Int) < l.length) (hm : d5 l < m) : sizeT ⟨(l.getD (k : Int).toNat K.terms.dflt).op, (l.getD (k : Int).toNat K.terms.dflt).w, (l.getD (k : Int).toNat K.terms.dflt).n, (l.getD (k : Int).toNat K.terms.dflt).name, (l.getD (k : Int).toNat K.terms.dflt).kids⟩ < m := by
  rw [V.Term.eta]
  have : sizeT (kAt l k) ≤ d5 l := sK omG
  exact Nat.lt_of_le_of_lt this hm
end Vg
