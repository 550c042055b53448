/- FnExactNewSession is proved: the law answers true for all arguments. No condition. -/
import Derived.Test.YtihedolalablgaaTop
import Derived.Test.YtihedolalablgaaNewSess
import Derived.Test.YtihedolalablgaaRows
namespace Go.Proofs.Ytihedolalablgaa
open Go Vg Go.ChangeShapes Go.WideShapes Go.ChangeAt Go.RowKit

theorem Try.own : ownKnob Try.prog.godebug = none := by kernel_rfl
theorem Try.laidOut : laidOutB Try.prog = true := by kernel_rfl

set_option maxRecDepth 100000 in
theorem fnExactNewSession_lifted (os : Os) (started : os.Started) (H : Type) (enc : TypeId × Value → H) :
    ReturnsInHanded {} Try.checked os 3 .any (Rows.fnExactNewSessionSpec.pre6 enc Try.prog Try.f3 Rows.fnExactNewSessionRow.domain false) (Rows.fnExactNewSessionSpec.post enc Try.prog Try.f3 false true false false) := by
  refine returnsInHanded_of_change (C := Try.checked) Try.own started (by kernel_rfl) Try.func3
    (ChangeSpec.witness6 (enc := enc) (C := Try.checked) false ⟨#[], #[], []⟩ 8 (by kernel_rfl) (by kernel_rfl) (by kernel_rfl) (by kernel_rfl)) ?_
  intro W base args ds gs before hval hW _ _
  refine law_post (P := Try.prog) (f := 9) (tb := 4) (shs := []) tauOk Try.laidOut (fun t ht => ?_) rfl rfl rfl (fun ds hds => ?_) rfl (fun dss h => ?_) hval hW
  · simp [Try.params3] at ht
  · match ds, hds with
    | [], _ => exact ⟨rfl, rfl, rfl⟩
  · match dss, h with
    | [], _ =>
      exact law_NewSession ..

theorem fnExactNewSession_holds : Rows.FnExactNewSessionSaid :=
  OpenClaim.holds_of_wide 3 Try.f3 rfl rfl rfl rfl rfl rfl rfl ⟨rfl, rfl, rfl, rfl, rfl⟩ rfl rfl rfl rfl rfl (by kernel_rfl) Try.func3 (by kernel_rfl)
    (of_decide_eq_true (by kernel_rfl)) (by unfold Func.isWrapper; first | (rw [if_pos (by decide +kernel)]; kernel_rfl) | (rw [if_neg (by decide +kernel)]; exact ⟨rfl, rfl⟩))
    (fun os started H enc _ => fnExactNewSession_lifted os started H enc)

end Go.Proofs.Ytihedolalablgaa
