/- FnExactFactOk is proved: FactOk of the program answers as that of the reference. No condition. -/
import Derived.Test.YtihedolalablgaaTop
import Derived.Test.YtihedolalablgaaFact
import Derived.Test.YtihedolalablgaaRows
namespace Go.Proofs.Ytihedolalablgaa
open Go Vg Go.ChangeShapes Go.WideShapes Go.ChangeAt Go.RowKit

theorem Try.own : ownKnob Try.prog.godebug = none := by kernel_rfl
theorem Try.laidOut : laidOutB Try.prog = true := by kernel_rfl

set_option maxRecDepth 100000 in
theorem fnExactFactOk_lifted (os : Os) (started : os.Started) (H : Type) (enc : TypeId × Value → H) :
    ReturnsInHanded {} Try.checked os 4 .any (Rows.fnExactFactOkSpec.pre6 enc Try.prog Try.f4 Rows.fnExactFactOkRow.domain false) (Rows.fnExactFactOkSpec.post enc Try.prog Try.f4 false true false false) := by
  refine returnsInHanded_of_change (C := Try.checked) Try.own started (by kernel_rfl) Try.func4
    (ChangeSpec.witness6 (enc := enc) (C := Try.checked) false ⟨#[], #[.agg #[.int .i64 0, .int .i64 0, .int .i64 0, .slice none 0 0], .agg #[.int .i64 0, .int .i64 0, .int .i64 0, .int .i64 0]], []⟩ 8 (by kernel_rfl) (by kernel_rfl) (by kernel_rfl) (by kernel_rfl)) ?_
  intro W base args ds gs before hval hW _ _
  refine law_post (P := Try.prog) (f := 9) (tb := 4) (shs := [[i64, i64, i64, .seq .inss], [i64, i64, i64, i64]]) tauOk Try.laidOut (fun t ht => ?_) rfl rfl rfl (fun ds hds => ?_) rfl (fun dss h => ?_) hval hW
  · have : t = 34 ∨ t = 36 := by simpa [Try.params4] using ht
    rcases this with rfl | rfl
    · exact ⟨by kernel_rfl, of_decide_eq_true (by kernel_rfl)⟩
    · exact ⟨by kernel_rfl, of_decide_eq_true (by kernel_rfl)⟩
  · match ds, hds with
    | [d1, d2], _ => exact ⟨rfl, rfl, rfl⟩
  · match dss, h with
    | [a, b], ⟨h1, h2, _⟩ =>
      obtain ⟨_, _, rfl, e1, h1⟩ := ShL_cons h1
      obtain ⟨_, _, rfl, e2, h1⟩ := ShL_cons h1
      obtain ⟨_, _, rfl, e3, h1⟩ := ShL_cons h1
      obtain ⟨_, _, rfl, e4, h1⟩ := ShL_cons h1
      obtain rfl := ShL_nil h1
      obtain ⟨_, _, rfl, e5, h2⟩ := ShL_cons h2
      obtain ⟨_, _, rfl, e6, h2⟩ := ShL_cons h2
      obtain ⟨_, _, rfl, e7, h2⟩ := ShL_cons h2
      obtain ⟨_, _, rfl, e8, h2⟩ := ShL_cons h2
      obtain rfl := ShL_nil h2
      obtain ⟨_, rfl⟩ := ok_int e1
      obtain ⟨_, rfl⟩ := ok_int e2
      obtain ⟨_, rfl⟩ := ok_int e3
      obtain ⟨_, rfl⟩ := ok_seq e4
      obtain ⟨_, rfl⟩ := ok_int e5
      obtain ⟨_, rfl⟩ := ok_int e6
      obtain ⟨_, rfl⟩ := ok_int e7
      obtain ⟨_, rfl⟩ := ok_int e8
      exact law_FactOk ..

theorem fnExactFactOk_holds : Rows.FnExactFactOkSaid :=
  OpenClaim.holds_of_wide 4 Try.f4 rfl rfl rfl rfl rfl rfl rfl ⟨rfl, rfl, rfl, rfl, rfl⟩ rfl rfl rfl rfl rfl (by kernel_rfl) Try.func4 (by kernel_rfl)
    (of_decide_eq_true (by kernel_rfl)) (by unfold Func.isWrapper; first | (rw [if_pos (by decide +kernel)]; kernel_rfl) | (rw [if_neg (by decide +kernel)]; exact ⟨rfl, rfl⟩))
    (fun os started H enc _ => fnExactFactOk_lifted os started H enc)

end Go.Proofs.Ytihedolalablgaa
