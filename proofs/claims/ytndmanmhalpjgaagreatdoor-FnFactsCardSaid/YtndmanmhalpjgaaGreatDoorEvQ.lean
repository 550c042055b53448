/- Lists of good terms: termsOk, l06Terms. Condition: names are short. -/
import Derived.Test.YtndmanmhalpjgaaGreatDoorTermMS
import Derived.Test.YtndmanmhalpjgaaGreatDoorTermI
import Derived.Test.YtndmanmhalpjgaaGreatDoorRedQ
import Derived.Test.YtndmanmhalpjgaaGreatDoorRg
namespace Vg
open Go Go.Proofs
/-! ### lists of good terms -/
noncomputable def fD (w : Int) (l : List V.Term) : Bool := l.all fun t => decide (t.w = w) && m7 t
theorem tp_at {w : Int} {l : List V.Term} {k : Nat} (h : (k : Int) < l.length) (h2 : (l.take k).all (fun t => decide (t.w = w) && m7 t) = true) (hw : (l.getD (k : Int).toNat K.terms.dflt).w = w) (ht : m7 ⟨(l.getD (k : Int).toNat K.terms.dflt).op, (l.getD (k : Int).toNat K.terms.dflt).w, (l.getD (k : Int).toNat K.terms.dflt).n, (l.getD (k : Int).toNat K.terms.dflt).name, (l.getD (k : Int).toNat K.terms.dflt).kids⟩ = true) : (l.take (k + 1)).all (fun t => decide (t.w = w) && m7 t) = true := by
  rw [V.Term.eta, Int.toNat_natCast] at ht
  rw [Int.toNat_natCast] at hw
  rw [kL K.terms.dflt h, h2, hw, ht]; simp
theorem tp_w {w : Int} {l : List V.Term} {k : Nat} (h : (k : Int) < l.length) (hw : ¬ (l.getD (k : Int).toNat K.terms.dflt).w = w) : fD w l = false := by
  rw [Int.toNat_natCast] at hw
  exact pI (d := K.terms.dflt) h (by rw [decide_eq_false hw]; rfl)
theorem tp_t {w : Int} {l : List V.Term} {k : Nat} (h : (k : Int) < l.length) (ht : m7 ⟨(l.getD (k : Int).toNat K.terms.dflt).op, (l.getD (k : Int).toNat K.terms.dflt).w, (l.getD (k : Int).toNat K.terms.dflt).n, (l.getD (k : Int).toNat K.terms.dflt).name, (l.getD (k : Int).toNat K.terms.dflt).kids⟩ = false) : fD w l = false := by
  rw [V.Term.eta, Int.toNat_natCast] at ht
  exact pI (d := K.terms.dflt) h (by rw [ht, Bool.and_false])
structure TpK (w : Int) (l : List V.Term) (k : Nat) : Prop where
  h : (l.take k).all (fun t => decide (t.w = w) && m7 t) = true
end Vg
