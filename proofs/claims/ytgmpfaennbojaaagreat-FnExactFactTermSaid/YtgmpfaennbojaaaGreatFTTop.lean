/- FnExactFactTerm is proved: the law answers true for all arguments. No condition. -/
import Derived.Test.YtgmpfaennbojaaaGreatTy
import Derived.Test.YtgmpfaennbojaaaGreatLawFT
import Derived.Test.YtgmpfaennbojaaaGreatRows
namespace Go.Proofs.YtgmpfaennbojaaaGreat
open Go Vg Go.ChangeShapes Go.WideShapes Go.ChangeAt Go.RowKit
theorem Tryz.own : ownKnob Tryz.prog.godebug = none := by kernel_rfl
theorem Tryz.laidOut : laidOutB Tryz.prog = true := by kernel_rfl
set_option maxRecDepth 100000 in
theorem fnExactFactTerm_lifted (os : Os) (started : os.Started) (H : Type) (enc : TypeId × Value → H) :
    ReturnsInHanded {} Tryz.checked os 3 .any (Rows.fnExactFactTermSpec.pre6 enc Tryz.prog Tryz.f3 Rows.fnExactFactTermRow.domain false) (Rows.fnExactFactTermSpec.post enc Tryz.prog Tryz.f3 false true false false) := by
  refine returnsInHanded_of_change (C := Tryz.checked) Tryz.own started (by kernel_rfl) Tryz.func3
    (ChangeSpec.witness6 (enc := enc) (C := Tryz.checked) false ⟨#[], #[.agg #[.int .i64 0, .int .i64 0, .int .i64 0, .slice none 0 0], .agg #[.int .i64 0, .int .i64 0, .int .i64 0, .int .i64 0], .slice none 0 0], []⟩ 8 (by kernel_rfl) (by kernel_rfl) (by kernel_rfl) (by kernel_rfl)) ?_
  intro W base args ds gs before hval hW _ _
  refine law_post (P := Tryz.prog) (f := 9) (tb := 4) (shs := [[i64, i64, i64, .seq .inss], [i64, i64, i64, i64], [.seq .terms]]) tauOk (recAll (A := [(52, .terms)]) (fun x hx => by simp only [List.mem_cons, List.not_mem_nil, or_false] at hx; rcases hx with rfl <;> exact ⟨9, by kernel_rfl⟩)) Tryz.laidOut (fun t ht => ?_) rfl rfl rfl (fun ds hds => ?_) rfl (fun dss h => ?_) hval hW ⟨fun t ht => (by simp [tabCells] at ht), fun g hg => (by simp [errCells] at hg), fun g hg => (by simp [numCells] at hg)⟩
  · have : t = 24 ∨ t = 26 ∨ t = 27 := by simpa [Tryz.params3] using ht
    rcases this with rfl | rfl | rfl
    all_goals exact ⟨by kernel_rfl, of_decide_eq_true (by kernel_rfl)⟩
  · match ds, hds with
    | [d0, d1, d2], _ => exact ⟨rfl, rfl, rfl⟩
  · match dss, h with
    | [a0, a1, a2], ⟨h0, h1, h2, _⟩ =>
      obtain ⟨_, _, rfl, e0_0, h0⟩ := ShL_cons h0
      obtain ⟨_, _, rfl, e0_1, h0⟩ := ShL_cons h0
      obtain ⟨_, _, rfl, e0_2, h0⟩ := ShL_cons h0
      obtain ⟨_, _, rfl, e0_3, h0⟩ := ShL_cons h0
      obtain rfl := ShL_nil h0
      obtain ⟨_, rfl⟩ := ok_int e0_0
      obtain ⟨_, rfl⟩ := ok_int e0_1
      obtain ⟨_, rfl⟩ := ok_int e0_2
      obtain ⟨_, rfl⟩ := ok_seq e0_3
      obtain ⟨_, _, rfl, e1_0, h1⟩ := ShL_cons h1
      obtain ⟨_, _, rfl, e1_1, h1⟩ := ShL_cons h1
      obtain ⟨_, _, rfl, e1_2, h1⟩ := ShL_cons h1
      obtain ⟨_, _, rfl, e1_3, h1⟩ := ShL_cons h1
      obtain rfl := ShL_nil h1
      obtain ⟨_, rfl⟩ := ok_int e1_0
      obtain ⟨_, rfl⟩ := ok_int e1_1
      obtain ⟨_, rfl⟩ := ok_int e1_2
      obtain ⟨_, rfl⟩ := ok_int e1_3
      obtain ⟨_, _, rfl, e2_0, h2⟩ := ShL_cons h2
      obtain rfl := ShL_nil h2
      obtain ⟨_, rfl⟩ := ok_seq e2_0
      exact law_FT (hd := nmOks_of (show _ ∧ _ ∧ _ from e2_0).2.2) ..
theorem fnExactFactTerm_holds : Rows.FnExactFactTermSaid :=
  OpenClaim.holds_of_wide 3 Tryz.f3 rfl rfl rfl rfl rfl rfl rfl ⟨rfl, rfl, rfl, rfl, rfl⟩ rfl rfl rfl rfl rfl (by kernel_rfl) Tryz.func3 (by kernel_rfl)
    (of_decide_eq_true (by kernel_rfl)) (by unfold Func.isWrapper; first | (rw [if_pos (by decide +kernel)]; kernel_rfl) | (rw [if_neg (by decide +kernel)]; exact ⟨rfl, rfl⟩))
    (fun os started H enc _ => fnExactFactTerm_lifted os started H enc)
end Go.Proofs.YtgmpfaennbojaaaGreat
