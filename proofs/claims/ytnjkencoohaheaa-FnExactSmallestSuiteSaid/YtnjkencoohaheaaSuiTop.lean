/- FnExactSmallestSuite is proved: the law answers true for all arguments. No condition. -/
import Derived.Test.YtnjkencoohaheaaTop
import Derived.Test.YtnjkencoohaheaaLawSui
import Derived.Test.YtnjkencoohaheaaRows
namespace Go.Proofs.Ytnjkencoohaheaa
open Go Vg Go.ChangeShapes Go.WideShapes Go.ChangeAt Go.RowKit

theorem Try.own : ownKnob Try.prog.godebug = none := by kernel_rfl
theorem Try.laidOut : laidOutB Try.prog = true := by kernel_rfl

set_option maxRecDepth 100000 in
theorem fnExactSmallestSuite_lifted (os : Os) (started : os.Started) (H : Type) (enc : TypeId × Value → H) :
    ReturnsInHanded {} Try.checked os 8 .any (Rows.fnExactSmallestSuiteSpec.pre6 enc Try.prog Try.f8 Rows.fnExactSmallestSuiteRow.domain false) (Rows.fnExactSmallestSuiteSpec.post enc Try.prog Try.f8 false true false false) := by
  refine returnsInHanded_of_change (C := Try.checked) Try.own started (by kernel_rfl) Try.func8
    (ChangeSpec.witness6 (enc := enc) (C := Try.checked) false ⟨#[], #[.agg #[.int .i64 0, .int .i64 0, .int .i64 0, .slice none 0 0], .slice none 0 0, .int .i64 0], []⟩ 8 (by kernel_rfl) (by kernel_rfl) (by kernel_rfl) (by kernel_rfl)) ?_
  intro W base args ds gs before hval hW _ _
  refine law_post (P := Try.prog) (f := 9) (tb := 4) (shs := [[i64, i64, i64, .seq .inss], [.seq .intss], [i64]]) tauOk Try.laidOut (fun t ht => ?_) rfl rfl rfl (fun ds hds => ?_) rfl (fun dss h => ?_) hval hW
  · have : t = 63 ∨ t = 31 ∨ t = 3 := by simpa [Try.params8] using ht
    rcases this with rfl | rfl | rfl
    all_goals exact ⟨by kernel_rfl, of_decide_eq_true (by kernel_rfl)⟩
  · match ds, hds with
    | [d0, d1, d2], _ => exact ⟨rfl, rfl, rfl⟩
  · match dss, h with
    | [a0, a1, a2], ⟨h0, h1, h2, _⟩ =>
      obtain ⟨_, _, rfl, e0_0, h0⟩ := ShL_cons h0
      obtain ⟨_, _, rfl, e0_1, h0⟩ := ShL_cons h0
      obtain ⟨_, _, rfl, e0_2, h0⟩ := ShL_cons h0
      obtain ⟨_, _, rfl, e0_3, h0⟩ := ShL_cons h0
      obtain rfl := ShL_nil h0
      obtain ⟨_, rfl⟩ := ok_int e0_0
      obtain ⟨_, rfl⟩ := ok_int e0_1
      obtain ⟨_, rfl⟩ := ok_int e0_2
      obtain ⟨_, rfl⟩ := ok_seq e0_3
      obtain ⟨_, _, rfl, e1_0, h1⟩ := ShL_cons h1
      obtain rfl := ShL_nil h1
      obtain ⟨_, rfl⟩ := ok_seq e1_0
      obtain ⟨_, _, rfl, e2_0, h2⟩ := ShL_cons h2
      obtain rfl := ShL_nil h2
      obtain ⟨_, rfl⟩ := ok_int e2_0
      exact law_Sui ..

theorem fnExactSmallestSuite_holds : Rows.FnExactSmallestSuiteSaid :=
  OpenClaim.holds_of_wide 8 Try.f8 rfl rfl rfl rfl rfl rfl rfl ⟨rfl, rfl, rfl, rfl, rfl⟩ rfl rfl rfl rfl rfl (by kernel_rfl) Try.func8 (by kernel_rfl)
    (of_decide_eq_true (by kernel_rfl)) (by unfold Func.isWrapper; first | (rw [if_pos (by decide +kernel)]; kernel_rfl) | (rw [if_neg (by decide +kernel)]; exact ⟨rfl, rfl⟩))
    (fun os started H enc _ => fnExactSmallestSuite_lifted os started H enc)

end Go.Proofs.Ytnjkencoohaheaa
