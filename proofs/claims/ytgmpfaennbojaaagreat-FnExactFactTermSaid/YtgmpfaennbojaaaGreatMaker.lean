/- The reference's maker of terms. Condition: terms are good. -/
import Derived.Test.YtgmpfaennbojaaaGreatTermMk
namespace Vg
open Go Go.Proofs
set_option maxRecDepth 100000 in
theorem s_l06Make (b : Bool) (op w : Int) (ks : List V.Term) (hb : b = false) (hn : okTs ks = true) : CallsG Tryz.prog 23 [.ptr 0 0, .dat (.i op), .dat (.i w), .row 1] [.box [.dat (.bool b)], .row 32 .terms ks false] 1 (fun res B => res = datT (mkP op w 0 ks).1 ∧ B = [.box [.dat (.bool (!(mkP op w 0 ks).2))]]) := by
  refine CallsG.of_awp tauOk mixOk Tryz.func23 rfl rfl rfl ?_
  conv => whnf
  repeat' (first | ((with_reducible refine fun (K1 : AX → AState → Prop) hK => ?_); refine stW ⟨?_⟩) | ((with_reducible show K1 _ _); subst hK; conv => whnf) | (with_reducible exact rfl) | refine st0 ⟨?_⟩ | ((with_reducible refine SplS.mk (fun h => ?_) (fun h => ?_)) <;> first | exact ctA | (subst h; conv => whnf) | (conv => whnf)) | ((with_reducible refine SplB.mk (fun h => ?_) (fun h => ?_)) <;> first | exact ctR | (conv => whnf)) | ((with_reducible refine and_of ?_ ?_); conv => whnf) | ((with_reducible show Exists _); refine Exists.intro _ (And.intro (s_MakeTerm (hn := ?_) ..) (And.intro rfl ?_)); rotate_right; conv => whnf) | ((with_reducible refine zcI (g := 24) ?_); (conv => whnf); refine ⟨_, _, s_MakeTerm (hn := ?_) .., rfl, fun res B hRB => ?_⟩; rotate_right; obtain ⟨rfl, rfl⟩ := hRB; conv => whnf) | (intro h; conv => whnf))
  all_goals (repeat (clear hK; clear K1))
  all_goals first | (rw [hb, show (mkP op w 0 ks).2 = _ from h]; exact rfl) | exact okTs_nm hn | exact rfl | (rw [by with_reducible assumption]; exact rfl) | (rw [show (mkP op w 0 ks).2 = _ from h]; exact rfl) | skip
end Vg
