/- Terms in the laws: sizes, copies, comparisons. Condition: terms are no larger than the law lets through. -/
import Derived.Test.YtndmanmhalpjgaaGreatDoorPoolL
import Derived.Test.YtndmanmhalpjgaaGreatDoorTermI
import Derived.Test.YtndmanmhalpjgaaGreatDoorSess
namespace Vg
open Go Go.Proofs
/-! ### sizes -/
theorem sz_el {l : List V.Term} {k m : Nat} (h : (k : Int) < l.length) (hm : i7 l < m) : sizeT ⟨(l.getD (k : Int).toNat K.terms.dflt).op, (l.getD (k : Int).toNat K.terms.dflt).w, (l.getD (k : Int).toNat K.terms.dflt).n, (l.getD (k : Int).toNat K.terms.dflt).name, (l.getD (k : Int).toNat K.terms.dflt).kids⟩ < m := by
  rw [V.Term.eta]
  have : sizeT (kAt l k) ≤ i7 l := dM omG
  exact Nat.lt_of_le_of_lt this hm
theorem aQ {a : List V.Term} {k : Nat} (h : (k : Int) < a.length) : (a.take k ++ List.replicate (a.length - k) K.terms.dflt).set (k : Int).toNat ⟨(a.getD (k : Int).toNat K.terms.dflt).op, (a.getD (k : Int).toNat K.terms.dflt).w, (a.getD (k : Int).toNat K.terms.dflt).n, (a.getD (k : Int).toNat K.terms.dflt).name, (a.getD (k : Int).toNat K.terms.dflt).kids⟩ = a.take (k + 1) ++ List.replicate (a.length - (k + 1)) K.terms.dflt := by
  rw [V.Term.eta, Int.toNat_natCast]
  exact set_mid K.terms.dflt K.terms.dflt h
/-! ### comparisons -/
end Vg
