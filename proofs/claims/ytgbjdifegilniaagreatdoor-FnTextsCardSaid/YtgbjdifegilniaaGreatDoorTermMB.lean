/- The reference makes terms simple: small functions. Condition: the term is good. -/
import Derived.Test.YtgbjdifegilniaaGreatDoorTermRB
import Derived.Test.YtgbjdifegilniaaGreatDoorRg
namespace Vg
open Go Go.Proofs
theorem nz {a b : Prop} (h0 : a) (h : ¬ (a ∧ b)) : ¬ b := fun q => h ⟨h0, q⟩
set_option maxRecDepth 100000 in
theorem qT (w n : Int) : CallsV Tryz.prog 53 [.dat (.i w), .dat (.i n)] (.agg [.dat (.i 0), .dat (.i w), .dat (.i n), .dat (.str ByteArray.empty), .dat (.seq .terms [])]) := by
  refine oV Tryz.func53 ⟨?_⟩
  repeat' (first | ((with_reducible refine fun (K1 : KT) hK => ?_); refine stW ⟨?_⟩) | ((with_reducible show K1 _ _); subst hK; conv => whnf) | (with_reducible refine frG ?_) | (with_reducible exact rfl) | refine y5 ⟨?_⟩ | ((with_reducible refine SplS.mk (fun h => ?_) (fun h => ?_)) <;> first | exact a7 | (subst h; conv => whnf) | (conv => whnf)) | (intro h; conv => whnf))
  all_goals repeat clear hK K1
  all_goals first | exact ⟨fr5n (t := cT w n) rfl⟩ | exact rfl | exact True.intro | skip
def eqC (op : Int) : Prop := op = 8 ∨ op = 9 ∨ op = 4 ∨ op = 10 ∨ op = 15 ∨ op = 16 ∨ op = 14
instance (op : Int) : Decidable (eqC op) := by unfold eqC; infer_instance
section
variable {k : Int} {t : V.Term} {ks : List V.Term}
end
end Vg
