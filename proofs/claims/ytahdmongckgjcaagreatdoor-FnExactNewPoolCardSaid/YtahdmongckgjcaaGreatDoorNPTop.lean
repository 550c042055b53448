/- FnExactNewPool is proved: the law answers true for all arguments; its tied card holds. No condition. -/
import Derived.Test.YtahdmongckgjcaaGreatDoorTy
import Derived.Test.YtahdmongckgjcaaGreatDoorLawNP
import Derived.Test.YtahdmongckgjcaaGreatDoorCards
import Derived.Test.YtahdmongckgjcaaGreatDoorTie
import Derived.LaidHandle
import Derived.Lib.LaidIn
import Derived.Lib.LaidTab
import Derived.Stop.LaidErr
import Derived.SevenTiedAt
namespace Go.Proofs.YtahdmongckgjcaaGreatDoor
open Go Vg Go.ChangeShapes Go.WideShapes Go.ChangeAt Go.RowKit

theorem Tryz.own : ownKnob Tryz.prog.godebug = none := by kernel_rfl
theorem Tryz.laidOut : laidOutB Tryz.prog = true := by kernel_rfl

/-- the cells that a listed table holds -/
def tabOf : DataW Unit → Array Value
  | .agg l => (l.map fun
    | .lit (.int k z) => Value.int k z
    | _ => .nilIface).toArray
  | _ => #[]
/-- a world that meets the condition: the settled one, the listed tables laid -/
noncomputable def laidWorld (os : Os) : World :=
  let put (h : Array Obj) (g : Nat) (cs : Array Value) : Array Obj := h.modify g fun
    | .cells _ t frozen => .cells cs t frozen
    | o => o
  let w0 := World.holding Tryz.prog os ⟨#[], #[], []⟩
  { w0 with heap := (put (put (put w0.heap 2 (tabOf Rows.laid_math_bits_deBruijn32tab)) 3 (tabOf Rows.laid_math_bits_deBruijn64tab)) 0 (tabOf Rows.laid_internal_strconv_uint64pow10)) }
set_option maxRecDepth 1000000 in
theorem laid_in (os : Os) (args : Array Value) : laidMet Tryz.prog Rows.fnExactNewPoolRow.laid ((laidWorld os).forCall (fun _ _ => 0) ⟨#[], args, []⟩).memory :=
  (LaidIn.of_run [2, 3, 0] 10 (by kernel_rfl) (by kernel_rfl) (by kernel_rfl) (by kernel_rfl)).met
set_option maxRecDepth 100000 in
theorem fnExactNewPool_lifted (os : Os) (started : os.Started) (H : Type) (enc : TypeId × Value → H) :
    ReturnsInHanded {} Tryz.checked os 3 .any (fun w args => (Rows.fnExactNewPoolSpec.pre enc Tryz.prog Tryz.f3 [] false w args ∧ laidMetH Tryz.prog Rows.fnExactNewPoolRow.laid w) ∧ sizedMet enc Tryz.prog Tryz.f3 (OpenSpec.ofChange Rows.fnExactNewPoolSpec) false w args)
      (Rows.fnExactNewPoolSpec.post enc Tryz.prog Tryz.f3 false true false false) := by
  refine returnsInHanded_of_change_and (C := Tryz.checked) (X := fun w _ => laidMetH Tryz.prog Rows.fnExactNewPoolRow.laid w) (fun _ _ _ hh h => h.of_heap hh) Tryz.own started (by kernel_rfl) Tryz.func3
    (ChangeSpec.witness_at (enc := enc) (C := Tryz.checked) (os := os) (X := fun w _ => laidMetH Tryz.prog Rows.fnExactNewPoolRow.laid w) false (laidWorld os) #[.agg #[.int .i64 0, .int .i64 0, .int .i64 0, .slice none 0 0], .int .i64 0, .int .i64 0] 8 rfl (by kernel_rfl) (by kernel_rfl) (by kernel_rfl) (by kernel_rfl) (by kernel_rfl) (laid_in os _)) ?_
  intro W base args ds gs before hval hW _ _ hL _
  refine law_post (P := Tryz.prog) (f := 9) (tb := 4) (shs := [[i64, i64, i64, .seq .inss], [i64], [i64]]) tauOk (recAll (A := []) (fun x hx => by cases hx)) Tryz.laidOut (fun t ht => ?_) rfl rfl rfl (fun ds hds => ?_) rfl (fun dss h => ?_) hval hW ⟨fun t ht => (by simp [tabCells] at ht), fun g hg => (by simp [errCells] at hg), fun g hg => (by simp [numCells] at hg)⟩
  · have : t = 24 ∨ t = 3 ∨ t = 3 := by simpa [Tryz.params3] using ht
    rcases this with rfl | rfl | rfl
    all_goals exact ⟨by kernel_rfl, of_decide_eq_true (by kernel_rfl)⟩
  · match ds, hds with
    | [d0, d1, d2], _ => exact ⟨rfl, rfl, rfl⟩
  · match dss, h with
    | [a0, a1, a2], ⟨h0, h1, h2, _⟩ =>
      obtain ⟨_, _, rfl, e0_0, h0⟩ := ShL_cons h0
      obtain ⟨_, _, rfl, e0_1, h0⟩ := ShL_cons h0
      obtain ⟨_, _, rfl, e0_2, h0⟩ := ShL_cons h0
      obtain ⟨_, _, rfl, e0_3, h0⟩ := ShL_cons h0
      obtain rfl := ShL_nil h0
      obtain ⟨_, rfl⟩ := ok_int e0_0
      obtain ⟨_, rfl⟩ := ok_int e0_1
      obtain ⟨_, rfl⟩ := ok_int e0_2
      obtain ⟨_, rfl⟩ := ok_seq e0_3
      obtain ⟨_, _, rfl, e1_0, h1⟩ := ShL_cons h1
      obtain rfl := ShL_nil h1
      obtain ⟨_, rfl⟩ := ok_int e1_0
      obtain ⟨_, _, rfl, e2_0, h2⟩ := ShL_cons h2
      obtain rfl := ShL_nil h2
      obtain ⟨_, rfl⟩ := ok_int e2_0
      exact law_NP ..

theorem fnExactNewPool_row : Rows.FnExactNewPoolSaid :=
  OpenClaim.holds_of_wide 3 Tryz.f3 rfl rfl rfl rfl rfl rfl rfl ⟨rfl, rfl, rfl, rfl, rfl⟩ rfl rfl rfl rfl rfl (by kernel_rfl) Tryz.func3 (by kernel_rfl)
    (of_decide_eq_true (by kernel_rfl)) (by unfold Func.isWrapper; first | (rw [if_pos (by decide +kernel)]; kernel_rfl) | (rw [if_neg (by decide +kernel)]; exact ⟨rfl, rfl⟩))
    (fun os started H enc _ => fnExactNewPool_lifted os started H enc)

theorem fnExactNewPool_card : Rows.FnExactNewPoolCardSaid :=
  Claim7.holds_tied_plain_at .later [] [.data, .data, .data] true (true, "52b4bc993f5d5f7aaec01000c376f95d4b95134991a8fc0771af5541d4109c67") false
    fnExactNewPool_row (fun _ h => by cases h) (by kernel_rfl) (fun _ h => by cases h) fnExactNewPool_row_tie rfl ⟨rfl, rfl⟩ (by kernel_rfl) rfl
    (fun f fn hf hfn => by
      obtain rfl : f = 3 := Option.some.inj ((show Tryz.prog.funcNamed "loop.example/g03219/laws.FnExactNewPool" = some 3 by kernel_rfl).symm.trans hf) |>.symm
      obtain rfl : fn = Tryz.f3 := (Option.some.inj (Tryz.func3.symm.trans hfn)).symm
      refine ⟨by kernel_rfl, fun j t ht => ?_⟩
      have hm : t ∈ Tryz.f3.params.toList := by
        rw [← Array.mem_def]; exact Array.mem_of_getElem? ht
      have h3 : t = 24 ∨ t = 3 ∨ t = 3 := by simpa [Tryz.params3] using hm
      rcases h3 with rfl | rfl | rfl
      · exact (show Tryz.prog.wantsStandIn 24 = false by kernel_rfl)
      · exact (show Tryz.prog.wantsStandIn 3 = false by kernel_rfl)
      · exact (show Tryz.prog.wantsStandIn 3 = false by kernel_rfl))
    (by kernel_rfl)

end Go.Proofs.YtahdmongckgjcaaGreatDoor
