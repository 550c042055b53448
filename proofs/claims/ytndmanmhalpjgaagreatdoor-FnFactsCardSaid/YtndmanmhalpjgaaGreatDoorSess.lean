/- Sessions: contracts of the functions that look at them, and of the law FnExactSessionOk. Condition: lists are no longer than the law lets through. -/
import Derived.Test.YtndmanmhalpjgaaGreatDoorBase
namespace Vg
open Go Go.Proofs
set_option maxRecDepth 100000 in
theorem rY (w : Int) (l : List Int) : CallsV Tryz.prog 31 [.dat (.i w), .dat (.seq .ints l)] (.dat (.bool (l.all (fun x => wordP w x)))) := by
  refine oV Tryz.func31 ⟨?_⟩
  repeat' (first | ((with_reducible refine fun (K1 : KT) hK => ?_); refine j4 ⟨?_⟩) | ((with_reducible show K1 _ _); subst hK; conv => whnf) | (with_reducible exact rfl) | refine m0 ⟨?_⟩ | ((with_reducible refine SplS.mk (fun h => ?_) (fun h => ?_)) <;> first | exact x5 | (subst h; conv => whnf) | (conv => whnf)) | refine u2 ⟨?_⟩ ⟨?_⟩ | (refine Exists.intro ({k : Nat // (l.take k).all (fun x => wordP w x) = true}) (Exists.intro (fun ⟨k, hall⟩ => z7 Tryz.f31.ntmps [(0, .dat (.i w)), (7, .dat (.seq .ints l)), (8, .dat (.i l.length)), (9, .dat (.i k))] []) (Exists.intro (fun ⟨k, hall⟩ => l.length - k) (Exists.intro ⟨0, rfl⟩ (And.intro (SubP.sub (σ := []) ⟨⟨rfl, rfl, rfl⟩, ⟨r0 ?_, r0 ?_, r0 ?_, r0 ?_, trivial⟩, trivial⟩) (fun ⟨k, hall⟩ => ?_))))); rotate_right; conv => whnf) | (refine Exists.intro ⟨k + 1, ?_⟩ (And.intro ?_ (SubP.sub (σ := []) ⟨⟨rfl, rfl, rfl⟩, ⟨r0 ?_, r0 ?_, r0 ?_, r0 ?_, trivial⟩, trivial⟩))) | ((with_reducible first | refine g0 (g := 53) ?_ | show Exists _); refine ⟨_, dB .., rfl, ?_⟩; rotate_right; conv => whnf) | (intro h; conv => whnf))
  all_goals repeat clear hK K1
  all_goals first | rfl | assumption | exact Bool.noConfusion (h.symm.trans hp) | omega | (dsimp only; omega) | exact congrArg (Dat.int .i64) (wE (by assumption) (by assumption)).symm | (rw [kL (K.dflt .ints) (by assumption), hall]; exact h) | (rw [pI (f := fun x => wordP w x) (by assumption) h]) | (have e := lL (by assumption) hall; rw [e])
end Vg
