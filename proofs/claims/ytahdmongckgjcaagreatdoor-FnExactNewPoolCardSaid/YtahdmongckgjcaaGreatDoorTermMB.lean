/- The reference makes terms simple: small functions. Condition: the term is good. -/
import Derived.Test.YtahdmongckgjcaaGreatDoorTermBL
namespace Vg
open Go Go.Proofs
theorem nz {a b : Prop} (h0 : a) (h : ¬ (a ∧ b)) : ¬ b := fun q => h ⟨h0, q⟩
def eqC (op : Int) : Prop := op = 8 ∨ op = 9 ∨ op = 4 ∨ op = 10 ∨ op = 15 ∨ op = 16 ∨ op = 14
instance (op : Int) : Decidable (eqC op) := by unfold eqC; infer_instance
section
variable {k : Int} {t : V.Term} {ks : List V.Term} (ht : okT t = true) (ho : t.op = k) (h3 : 3 ≤ k ∧ k ≤ 16)
include ht ho h3
end
end Vg
