/- FnCovers is proved: the law answers true for all arguments. No condition. -/
import Derived.Test.YtnjkencoohaheaaTop
import Derived.Test.YtnjkencoohaheaaLawFV
import Derived.Test.YtnjkencoohaheaaRows
namespace Go.Proofs.Ytnjkencoohaheaa
open Go Vg Go.ChangeShapes Go.WideShapes Go.ChangeAt Go.RowKit

theorem Try.own : ownKnob Try.prog.godebug = none := by kernel_rfl
theorem Try.laidOut : laidOutB Try.prog = true := by kernel_rfl

set_option maxRecDepth 100000 in
theorem fnCovers_lifted (os : Os) (started : os.Started) (H : Type) (enc : TypeId × Value → H) :
    ReturnsInHanded {} Try.checked os 7 .any (Rows.fnCoversSpec.pre6 enc Try.prog Try.f7 Rows.fnCoversRow.domain false) (Rows.fnCoversSpec.post enc Try.prog Try.f7 false true false false) := by
  refine returnsInHanded_of_change (C := Try.checked) Try.own started (by kernel_rfl) Try.func7
    (ChangeSpec.witness6 (enc := enc) (C := Try.checked) false ⟨#[], #[.slice none 0 0], []⟩ 8 (by kernel_rfl) (by kernel_rfl) (by kernel_rfl) (by kernel_rfl)) ?_
  intro W base args ds gs before hval hW _ _
  refine law_post (P := Try.prog) (f := 9) (tb := 4) (shs := [[.seq .bytes]]) tauOk Try.laidOut (fun t ht => ?_) rfl rfl rfl (fun ds hds => ?_) rfl (fun dss h => ?_) hval hW
  · have : t = 22 := by simpa [Try.params7] using ht
    subst this
    all_goals exact ⟨by kernel_rfl, of_decide_eq_true (by kernel_rfl)⟩
  · match ds, hds with
    | [d0], _ => exact ⟨rfl, rfl, rfl⟩
  · match dss, h with
    | [a0], ⟨h0, _⟩ =>
      obtain ⟨_, _, rfl, e0_0, h0⟩ := ShL_cons h0
      obtain rfl := ShL_nil h0
      obtain ⟨_, rfl⟩ := ok_seq e0_0
      exact law_FV ..

theorem fnCovers_holds : Rows.FnCoversSaid :=
  OpenClaim.holds_of_wide 7 Try.f7 rfl rfl rfl rfl rfl rfl rfl ⟨rfl, rfl, rfl, rfl, rfl⟩ rfl rfl rfl rfl rfl (by kernel_rfl) Try.func7 (by kernel_rfl)
    (of_decide_eq_true (by kernel_rfl)) (by unfold Func.isWrapper; first | (rw [if_pos (by decide +kernel)]; kernel_rfl) | (rw [if_neg (by decide +kernel)]; exact ⟨rfl, rfl⟩))
    (fun os started H enc _ => fnCovers_lifted os started H enc)

end Go.Proofs.Ytnjkencoohaheaa
