/- FnExactShrinkInputs is proved: the law answers true for all arguments; its tied card holds. No condition. -/
import Derived.Test.YtjlffejifadkiaaGreatDoorTy
import Derived.Test.YtjlffejifadkiaaGreatDoorLawSh
import Derived.Test.YtjlffejifadkiaaGreatDoorCards
import Derived.Test.YtjlffejifadkiaaGreatDoorTie
import Derived.LaidHandle
import Derived.Lib.LaidIn
import Derived.Lib.LaidTab
import Derived.Stop.LaidErr
import Derived.SevenTiedAt
namespace Go.Proofs.YtjlffejifadkiaaGreatDoor
open Go Vg Go.ChangeShapes Go.WideShapes Go.ChangeAt Go.RowKit
set_option maxRecDepth 100000
set_option maxHeartbeats 40000000
theorem Tryz.own : ownKnob Tryz.prog.godebug = none := by kernel_rfl
theorem Tryz.laidOut : laidOutB Tryz.prog = true := by kernel_rfl
def tabOf : DataW Unit → Array Value
  | .agg l => (l.map fun
    | .lit (.int k z) => Value.int k z
    | _ => .nilIface).toArray
  | _ => #[]
noncomputable def laidWorld (os : Os) : World :=
  let put (h : Array Obj) (g : Nat) (cs : Array Value) : Array Obj := h.modify g fun
    | .cells _ t frozen => .cells cs t frozen
    | o => o
  let w0 := World.holding Tryz.prog os ⟨#[], #[], []⟩
  { w0 with heap := (put (put (put w0.heap 2 (tabOf Rows.laid_math_bits_deBruijn32tab)) 3 (tabOf Rows.laid_math_bits_deBruijn64tab)) 0 (tabOf Rows.laid_internal_strconv_uint64pow10)) }
theorem laid_in (os : Os) (args : Array Value) : laidMet Tryz.prog Rows.fnExactShrinkInputsRow.laid ((laidWorld os).forCall (fun _ _ => 0) ⟨#[], args, []⟩).memory :=
  (LaidIn.of_run [2, 3, 0] 10 (by kernel_rfl) (by kernel_rfl) (by kernel_rfl) (by kernel_rfl)).met
theorem fnExactShrinkInputs_lifted (os : Os) (started : os.Started) (H : Type) (enc : TypeId × Value → H) :
    ReturnsInHanded {} Tryz.checked os 4 .any (fun w args => (Rows.fnExactShrinkInputsSpec.pre enc Tryz.prog Tryz.f4 [] false w args ∧ laidMetH Tryz.prog Rows.fnExactShrinkInputsRow.laid w) ∧ sizedMet enc Tryz.prog Tryz.f4 (OpenSpec.ofChange Rows.fnExactShrinkInputsSpec) false w args)
      (Rows.fnExactShrinkInputsSpec.post enc Tryz.prog Tryz.f4 false true false false) := by
  refine returnsInHanded_of_change_and (C := Tryz.checked) (X := fun w _ => laidMetH Tryz.prog Rows.fnExactShrinkInputsRow.laid w) (fun _ _ _ hh h => h.of_heap hh) Tryz.own started (by kernel_rfl) Tryz.func4
    (ChangeSpec.witness_at (enc := enc) (C := Tryz.checked) (os := os) (X := fun w _ => laidMetH Tryz.prog Rows.fnExactShrinkInputsRow.laid w) false (laidWorld os) #[.agg #[.int .i64 0, .int .i64 0, .int .i64 0, .slice none 0 0], .slice none 0 0, .int .i64 0] 8 rfl (by kernel_rfl) (by kernel_rfl) (by kernel_rfl) (by kernel_rfl) (by kernel_rfl) (laid_in os _)) ?_
  intro W base args ds gs before hval hW _ _ hL _
  refine tZ (P := Tryz.prog) (f := 9) (tb := 4) (shs := [[i64, i64, i64, .seq .inss], [.seq .ints], [i64]]) sJ (rX (A := []) (fun x hx => by cases hx)) Tryz.laidOut (fun t ht => ?_) rfl rfl rfl (fun ds hds => ?_) rfl (fun dss h => ?_) hval hW ⟨fun t ht => (by simp [mP] at ht), fun g hg => (by simp [iT] at hg), fun g hg => (by simp [iR] at hg)⟩
  · have : t = 40 ∨ t = 27 ∨ t = 3 := by simpa [Tryz.params4] using ht
    rcases this with rfl | rfl | rfl
    all_goals exact ⟨by kernel_rfl, of_decide_eq_true (by kernel_rfl)⟩
  · match ds, hds with
    | [d0, d1, d2], _ => exact ⟨rfl, rfl, rfl⟩
  · match dss, h with
    | [a0, a1, a2], ⟨h0, h1, h2, _⟩ =>
      obtain ⟨_, _, rfl, e0_0, h0⟩ := i5 h0
      obtain ⟨_, _, rfl, e0_1, h0⟩ := i5 h0
      obtain ⟨_, _, rfl, e0_2, h0⟩ := i5 h0
      obtain ⟨_, _, rfl, e0_3, h0⟩ := i5 h0
      obtain rfl := vA h0
      obtain ⟨_, rfl⟩ := b7 e0_0
      obtain ⟨_, rfl⟩ := b7 e0_1
      obtain ⟨_, rfl⟩ := b7 e0_2
      obtain ⟨_, rfl⟩ := oA e0_3
      obtain ⟨_, _, rfl, e1_0, h1⟩ := i5 h1
      obtain rfl := vA h1
      obtain ⟨_, rfl⟩ := oA e1_0
      obtain ⟨_, _, rfl, e2_0, h2⟩ := i5 h2
      obtain rfl := vA h2
      obtain ⟨_, rfl⟩ := b7 e2_0
      exact law_Sh ..
theorem qia : Rows.FnExactShrinkInputsSaid :=
  OpenClaim.holds_of_wide 4 Tryz.f4 rfl rfl rfl rfl rfl rfl rfl ⟨rfl, rfl, rfl, rfl, rfl⟩ rfl rfl rfl rfl rfl (by kernel_rfl) Tryz.func4 (by kernel_rfl)
    (of_decide_eq_true (by kernel_rfl)) (by unfold Func.isWrapper; first | (rw [if_pos (by decide +kernel)]; kernel_rfl) | (rw [if_neg (by decide +kernel)]; exact ⟨rfl, rfl⟩))
    (fun os started H enc _ => fnExactShrinkInputs_lifted os started H enc)
theorem fnExactShrinkInputs_card : Rows.FnExactShrinkInputsCardSaid :=
  Claim7.holds_tied_plain_at .later [] [.data, .data, .data] true (true, "3cc2bd90f6ad9b6a53889b7251fc20b47be7d72d14340496cbb1df177286f7de") false
    qia (fun _ h => by cases h) (by kernel_rfl) (fun _ h => by cases h) fnExactShrinkInputs_row_tie rfl ⟨rfl, rfl⟩ (by kernel_rfl) rfl
    (fun f fn hf hfn => by
      obtain rfl : f = 4 := Option.some.inj ((show Tryz.prog.funcNamed "loop.example/g03219/laws.FnExactShrinkInputs" = some 4 by kernel_rfl).symm.trans hf) |>.symm
      obtain rfl : fn = Tryz.f4 := (Option.some.inj (Tryz.func4.symm.trans hfn)).symm
      refine ⟨by kernel_rfl, fun j t ht => ?_⟩
      have hm : t ∈ Tryz.f4.params.toList := by
        rw [← Array.mem_def]; exact Array.mem_of_getElem? ht
      have h3 : t = 40 ∨ t = 27 ∨ t = 3 := by simpa [Tryz.params4] using hm
      rcases h3 with rfl | rfl | rfl
      · exact (show Tryz.prog.wantsStandIn 40 = false by kernel_rfl)
      · exact (show Tryz.prog.wantsStandIn 27 = false by kernel_rfl)
      · exact (show Tryz.prog.wantsStandIn 3 = false by kernel_rfl))
    (by kernel_rfl)
end Go.Proofs.YtjlffejifadkiaaGreatDoor
