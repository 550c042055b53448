/- FnExactFormatPool is proved: the law answers true for all arguments; its tied card holds. No condition. -/
import Derived.Test.YtjlffejifadkiaaGreatDoorTy
import Derived.Test.YtjlffejifadkiaaGreatDoorLawFP
import Derived.Test.YtjlffejifadkiaaGreatDoorCards
import Derived.Test.YtjlffejifadkiaaGreatDoorTie
import Derived.LaidHandle
import Derived.Lib.LaidIn
import Derived.Lib.LaidTab
import Derived.Stop.LaidErr
import Derived.SevenTiedAt
namespace Go.Proofs.YtjlffejifadkiaaGreatDoor
open Go Vg Go.ChangeShapes Go.WideShapes Go.ChangeAt Go.RowKit
set_option maxRecDepth 100000
set_option maxHeartbeats 40000000
theorem Tryz.own : ownKnob Tryz.prog.godebug = none := by kernel_rfl
theorem Tryz.laidOut : laidOutB Tryz.prog = true := by kernel_rfl
def tabOf : DataW Unit → Array Value
  | .agg l => (l.map fun
    | .lit (.int k z) => Value.int k z
    | _ => .nilIface).toArray
  | _ => #[]
noncomputable def qnk (os : Os) : World :=
  let put (h : Array Obj) (g : Nat) (cs : Array Value) : Array Obj := h.modify g fun
    | .cells _ t frozen => .cells cs t frozen
    | o => o
  let w0 := World.holding Tryz.prog os ⟨#[], #[], []⟩
  { w0 with heap := (put (put (put w0.heap 2 (tabOf Rows.laid_math_bits_deBruijn32tab)) 3 (tabOf Rows.laid_math_bits_deBruijn64tab)) 0 (tabOf Rows.laid_internal_strconv_uint64pow10)) }
theorem laid_in (os : Os) (args : Array Value) : laidMet Tryz.prog Rows.fnExactFormatPoolRow.laid ((qnk os).forCall (fun _ _ => 0) ⟨#[], args, []⟩).memory :=
  (LaidIn.of_run [2, 3, 0] 10 (by kernel_rfl) (by kernel_rfl) (by kernel_rfl) (by kernel_rfl)).met
theorem laid_tab {W : World} (h : laidMetH Tryz.prog Rows.fnExactFormatPoolRow.laid W) : Lib.TabIs Tryz.prog W "internal/strconv.uint64pow10" .u64 Lib.pow10Tab := by
  have h1 : laidMet Tryz.prog Rows.fnExactFormatPoolRow.laid W := h
  have h2 := h1.tail
  have h3 := h2.tail
  exact Lib.tabIs_of_head (t := 202) (e := 188) (n := 20) (g := 0) (by kernel_rfl) (by kernel_rfl) (by kernel_rfl) (by kernel_rfl) (by kernel_rfl) (by kernel_rfl) h3
theorem fnExactFormatPool_lifted (os : Os) (started : os.Started) (H : Type) (enc : TypeId × Value → H) :
    ReturnsInHanded {} Tryz.checked os 5 .any (fun w args => (Rows.fnExactFormatPoolSpec.pre enc Tryz.prog Tryz.f5 [] false w args ∧ laidMetH Tryz.prog Rows.fnExactFormatPoolRow.laid w) ∧ sizedMet enc Tryz.prog Tryz.f5 (OpenSpec.ofChange Rows.fnExactFormatPoolSpec) false w args)
      (Rows.fnExactFormatPoolSpec.post enc Tryz.prog Tryz.f5 false true false false) := by
  refine returnsInHanded_of_change_and (C := Tryz.checked) (X := fun w _ => laidMetH Tryz.prog Rows.fnExactFormatPoolRow.laid w) (fun _ _ _ hh h => h.of_heap hh) Tryz.own started (by kernel_rfl) Tryz.func5
    (ChangeSpec.witness_at (enc := enc) (C := Tryz.checked) (os := os) (X := fun w _ => laidMetH Tryz.prog Rows.fnExactFormatPoolRow.laid w) false (qnk os) #[.agg #[.int .i64 0, .int .i64 0, .int .i64 0, .slice none 0 0], .agg #[.int .i64 0, .slice none 0 0, .slice none 0 0, .slice none 0 0, .slice none 0 0]] 8 rfl (by kernel_rfl) (by kernel_rfl) (by kernel_rfl) (by kernel_rfl) (by kernel_rfl) (laid_in os _)) ?_
  intro W base args ds gs before hval hW _ _ hL _
  refine law_post (P := Tryz.prog) (f := 9) (tb := 4) (shs := [[i64, i64, i64, .seq .inss], [i64, .seq .intss, .seq .intss, .seq .bools, .seq .intss]]) tauOk (recAll (A := []) (fun x hx => by cases hx)) Tryz.laidOut (fun t ht => ?_) rfl rfl rfl (fun ds hds => ?_) rfl (fun dss h => ?_) hval hW (tabH_one (laid_tab hL) (by kernel_rfl) rfl rfl rfl)
  · have : t = 40 ∨ t = 51 := by simpa [Tryz.params5] using ht
    rcases this with rfl | rfl
    all_goals exact ⟨by kernel_rfl, of_decide_eq_true (by kernel_rfl)⟩
  · match ds, hds with
    | [d0, d1], _ => exact ⟨rfl, rfl, rfl⟩
  · match dss, h with
    | [a0, a1], ⟨h0, h1, _⟩ =>
      obtain ⟨_, _, rfl, e0_0, h0⟩ := qaf h0
      obtain ⟨_, _, rfl, e0_1, h0⟩ := qaf h0
      obtain ⟨_, _, rfl, e0_2, h0⟩ := qaf h0
      obtain ⟨_, _, rfl, e0_3, h0⟩ := qaf h0
      obtain rfl := qcp h0
      obtain ⟨_, rfl⟩ := qbl e0_0
      obtain ⟨_, rfl⟩ := qbl e0_1
      obtain ⟨_, rfl⟩ := qbl e0_2
      obtain ⟨_, rfl⟩ := qcu e0_3
      obtain ⟨_, _, rfl, e1_0, h1⟩ := qaf h1
      obtain ⟨_, _, rfl, e1_1, h1⟩ := qaf h1
      obtain ⟨_, _, rfl, e1_2, h1⟩ := qaf h1
      obtain ⟨_, _, rfl, e1_3, h1⟩ := qaf h1
      obtain ⟨_, _, rfl, e1_4, h1⟩ := qaf h1
      obtain rfl := qcp h1
      obtain ⟨_, rfl⟩ := qbl e1_0
      obtain ⟨_, rfl⟩ := qcu e1_1
      obtain ⟨_, rfl⟩ := qcu e1_2
      obtain ⟨_, rfl⟩ := qcu e1_3
      obtain ⟨_, rfl⟩ := qcu e1_4
      exact law_FP ..
theorem fnExactFormatPool_holds : Rows.FnExactFormatPoolSaid :=
  OpenClaim.holds_of_wide 5 Tryz.f5 rfl rfl rfl rfl rfl rfl rfl ⟨rfl, rfl, rfl, rfl, rfl⟩ rfl rfl rfl rfl rfl (by kernel_rfl) Tryz.func5 (by kernel_rfl)
    (of_decide_eq_true (by kernel_rfl)) (by unfold Func.isWrapper; first | (rw [if_pos (by decide +kernel)]; kernel_rfl) | (rw [if_neg (by decide +kernel)]; exact ⟨rfl, rfl⟩))
    (fun os started H enc _ => fnExactFormatPool_lifted os started H enc)
theorem fnExactFormatPool_card : Rows.FnExactFormatPoolCardSaid :=
  Claim7.holds_tied_plain_at .later [] [.data, .data, .data] true (true, "3cc2bd90f6ad9b6a53889b7251fc20b47be7d72d14340496cbb1df177286f7de") false
    fnExactFormatPool_holds (fun _ h => by cases h) (by kernel_rfl) (fun _ h => by cases h) fnExactFormatPool_row_tie rfl ⟨rfl, rfl⟩ (by kernel_rfl) rfl
    (fun f fn hf hfn => by
      obtain rfl : f = 5 := Option.some.inj ((show Tryz.prog.funcNamed "loop.example/g03219/laws.FnExactFormatPool" = some 5 by kernel_rfl).symm.trans hf) |>.symm
      obtain rfl : fn = Tryz.f5 := (Option.some.inj (Tryz.func5.symm.trans hfn)).symm
      refine ⟨by kernel_rfl, fun j t ht => ?_⟩
      have hm : t ∈ Tryz.f5.params.toList := by
        rw [← Array.mem_def]; exact Array.mem_of_getElem? ht
      have h3 : t = 40 ∨ t = 51 := by simpa [Tryz.params5] using hm
      rcases h3 with rfl | rfl
      · exact (show Tryz.prog.wantsStandIn 40 = false by kernel_rfl)
      · exact (show Tryz.prog.wantsStandIn 51 = false by kernel_rfl))
    (by kernel_rfl)
end Go.Proofs.YtjlffejifadkiaaGreatDoor
