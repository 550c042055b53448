/- FnStepped is proved: the law answers true for all arguments; its tied card holds. No condition. -/
import Derived.Test.YtfjkpndogncdcaaGreatDoorTy
import Derived.Test.YtfjkpndogncdcaaGreatDoorLawST
import Derived.Test.YtfjkpndogncdcaaGreatDoorCards
import Derived.Test.YtfjkpndogncdcaaGreatDoorTie
import Derived.LaidHandle
import Derived.Lib.LaidIn
import Derived.Lib.LaidTab
import Derived.Stop.LaidErr
import Derived.SevenTiedAt
namespace Go.Proofs.YtfjkpndogncdcaaGreatDoor
open Go Vg Go.ChangeShapes Go.WideShapes Go.ChangeAt Go.RowKit
set_option maxRecDepth 100000
set_option maxHeartbeats 40000000
theorem Tryz.own : ownKnob Tryz.prog.godebug = none := by kernel_rfl
theorem Tryz.laidOut : laidOutB Tryz.prog = true := by kernel_rfl
def tabOf : DataW Unit -> Array Value
  | .agg l => (l.map fun
    | .lit (.int k z) => Value.int k z
    | _ => .nilIface).toArray
  | _ => #[]
noncomputable def qcw (os : Os) : World :=
  let put (h : Array Obj) (g : Nat) (cs : Array Value) : Array Obj := h.modify g fun
    | .cells _ t frozen => .cells cs t frozen
    | o => o
  let w0 := World.holding Tryz.prog os ⟨#[], #[], []⟩
  { w0 with heap := (put (put (put w0.heap 2 (tabOf Rows.laid_math_bits_deBruijn32tab)) 3 (tabOf Rows.laid_math_bits_deBruijn64tab)) 0 (tabOf Rows.laid_internal_strconv_uint64pow10)) }
theorem laid_in (os : Os) (args : Array Value) : laidMet Tryz.prog Rows.fnSteppedRow.laid ((qcw os).forCall (fun _ _ => 0) ⟨#[], args, []⟩).memory :=
  (LaidIn.of_run [2, 3, 0] 10 (by kernel_rfl) (by kernel_rfl) (by kernel_rfl) (by kernel_rfl)).met
theorem fnStepped_lifted (os : Os) (started : os.Started) (H : Type) (enc : TypeId × Value -> H) :
    ReturnsInHanded {} Tryz.checked os 3 .any (fun w args => (Rows.fnSteppedSpec.pre enc Tryz.prog Tryz.f3 [] false w args /\ laidMetH Tryz.prog Rows.fnSteppedRow.laid w) /\ sizedMet enc Tryz.prog Tryz.f3 (OpenSpec.ofChange Rows.fnSteppedSpec) false w args)
      (Rows.fnSteppedSpec.post enc Tryz.prog Tryz.f3 false true false false) := by
  refine returnsInHanded_of_change_and (C := Tryz.checked) (X := fun w _ => laidMetH Tryz.prog Rows.fnSteppedRow.laid w) (fun _ _ _ hh h => h.of_heap hh) Tryz.own started (by kernel_rfl) Tryz.func3
    (ChangeSpec.witness_at (enc := enc) (C := Tryz.checked) (os := os) (X := fun w _ => laidMetH Tryz.prog Rows.fnSteppedRow.laid w) false (qcw os) #[.slice none 0 0] 8 rfl (by kernel_rfl) (by kernel_rfl) (by kernel_rfl) (by kernel_rfl) (by kernel_rfl) (laid_in os _)) ?_
  intro W base args ds gs before hval hW _ _ hL _
  refine qkj (P := Tryz.prog) (f := 9) (tb := 4) (shs := [[.seq .bytes]]) dP (recAll (A := []) (fun x hx => by cases hx)) Tryz.laidOut (fun t ht => ?_) rfl rfl rfl (fun ds hds => ?_) rfl (fun dss h => ?_) hval hW ⟨fun t ht => (by simp [rZ] at ht), fun g hg => (by simp [qey] at hg), fun g hg => (by simp [qbt] at hg)⟩
  . have : t = 22 := by simpa [Tryz.params3] using ht
    subst this
    all_goals exact ⟨by kernel_rfl, of_decide_eq_true (by kernel_rfl)⟩
  . match ds, hds with
    | [d0], _ => exact ⟨rfl, rfl, rfl⟩
  . match dss, h with
    | [a0], ⟨h0, _⟩ =>
      obtain ⟨_, _, rfl, e0_0, h0⟩ := o6 h0
      obtain rfl := nD h0
      obtain ⟨_, rfl⟩ := sC e0_0
      exact law_ST ..
theorem qmg : Rows.FnSteppedSaid :=
  OpenClaim.holds_of_wide 3 Tryz.f3 rfl rfl rfl rfl rfl rfl rfl ⟨rfl, rfl, rfl, rfl, rfl⟩ rfl rfl rfl rfl rfl (by kernel_rfl) Tryz.func3 (by kernel_rfl)
    (of_decide_eq_true (by kernel_rfl)) (by unfold Func.isWrapper; first | (rw [if_pos (by decide +kernel)]; kernel_rfl) | (rw [if_neg (by decide +kernel)]; exact rr))
    (fun os started H enc _ => fnStepped_lifted os started H enc)
theorem fnStepped_card : Rows.FnSteppedCardSaid :=
  Claim7.holds_tied_plain_at .later [] [.data, .data, .data] true (true, "f9d20fe1a6826034f2a583eb89f34de8abeadbda2664eaa1a841508059e28e70") false
    qmg (fun _ h => by cases h) (by kernel_rfl) (fun _ h => by cases h) fnStepped_row_tie rfl rr (by kernel_rfl) rfl
    (fun f fn hf hfn => by
      obtain rfl : f = 3 := Option.some.inj ((show Tryz.prog.funcNamed "loop.example/g03219/laws.FnStepped" = some 3 by kernel_rfl).symm.trans hf) |>.symm
      obtain rfl : fn = Tryz.f3 := (Option.some.inj (Tryz.func3.symm.trans hfn)).symm
      refine ⟨by kernel_rfl, fun j t ht => ?_⟩
      have hm : t ∈ Tryz.f3.params.toList := by
        rw [<- Array.mem_def]; exact Array.mem_of_getElem? ht
      have h3 : t = 22 := by simpa [Tryz.params3] using hm
      subst h3
      . exact (show Tryz.prog.wantsStandIn 22 = false by kernel_rfl))
    (by kernel_rfl)
end Go.Proofs.YtfjkpndogncdcaaGreatDoor
