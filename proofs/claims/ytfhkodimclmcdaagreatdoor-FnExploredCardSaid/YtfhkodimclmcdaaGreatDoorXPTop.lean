/- FnExplored is proved: the law answers true for all arguments; its tied card holds. No condition. -/
import Derived.Test.YtfhkodimclmcdaaGreatDoorTy
import Derived.Test.YtfhkodimclmcdaaGreatDoorLawXP
import Derived.Test.YtfhkodimclmcdaaGreatDoorCards
import Derived.Test.YtfhkodimclmcdaaGreatDoorTie
import Derived.LaidHandle
import Derived.Lib.LaidIn
import Derived.Lib.LaidTab
import Derived.Stop.LaidErr
import Derived.SevenTiedAt
namespace Go.Proofs.YtfhkodimclmcdaaGreatDoor
open Go Vg Go.ChangeShapes Go.WideShapes Go.ChangeAt Go.RowKit
set_option maxRecDepth 100000
set_option maxHeartbeats 40000000
theorem Tryz.own : ownKnob Tryz.prog.godebug = none := by kernel_rfl
theorem Tryz.laidOut : laidOutB Tryz.prog = true := by kernel_rfl
def tabOf : DataW Unit -> Array Value
  | .agg l=>(l.map fun
    | .lit (.int k z)=>Value.int k z
    | _ => .nilIface).toArray
  | _ => #[]
noncomputable def qdf (os : Os) : World :=
  let put (h : Array Obj) (g : Nat) (cs : Array Value) : Array Obj := h.modify g fun
    | .cells _ t frozen => .cells cs t frozen
    | o=>o
  let w0 := World.holding Tryz.prog os ⟨#[],#[],[]⟩
  { w0 with heap := (put (put (put w0.heap 2 (tabOf Rows.laid_math_bits_deBruijn32tab)) 3 (tabOf Rows.laid_math_bits_deBruijn64tab)) 0 (tabOf Rows.laid_internal_strconv_uint64pow10)) }
theorem laid_in (os : Os) (args : Array Value) : laidMet Tryz.prog Rows.fnExploredRow.laid ((qdf os).forCall (fun _ _=>0) ⟨#[],args,[]⟩).memory :=
  (LaidIn.of_run [2,3,0] 10 (by kernel_rfl) (by kernel_rfl) (by kernel_rfl) (by kernel_rfl)).met
theorem fnExplored_lifted (os : Os) (started : os.Started) (H : Type) (enc : TypeId × Value -> H) :
    ReturnsInHanded {} Tryz.checked os 4 .any (fun w args=>(Rows.fnExploredSpec.pre enc Tryz.prog Tryz.f4 [] false w args /\ laidMetH Tryz.prog Rows.fnExploredRow.laid w) /\ sizedMet enc Tryz.prog Tryz.f4 (OpenSpec.ofChange Rows.fnExploredSpec) false w args)
      (Rows.fnExploredSpec.post enc Tryz.prog Tryz.f4 false true false false) := by
  refine returnsInHanded_of_change_and (C := Tryz.checked) (X := fun w _=>laidMetH Tryz.prog Rows.fnExploredRow.laid w) (fun _ _ _ hh h=>h.of_heap hh) Tryz.own started (by kernel_rfl) Tryz.func4
    (ChangeSpec.witness_at (enc := enc) (C := Tryz.checked) (os := os) (X := fun w _=>laidMetH Tryz.prog Rows.fnExploredRow.laid w) false (qdf os) #[.slice none 0 0] 8 rfl (by kernel_rfl) (by kernel_rfl) (by kernel_rfl) (by kernel_rfl) (by kernel_rfl) (laid_in os _)) ?_
  intro W base args ds gs before hval hW _ _ hL _
  refine qle (P := Tryz.prog) (f := 9) (tb := 4) (shs := [[.seq .bytes]]) yP (recAll (A := []) (fun x hx=>by cases hx)) Tryz.laidOut (fun t ht=>?_) rfl rfl rfl (fun ds hds=>?_) rfl (fun dss h=>?_) hval hW ⟨fun t ht=>(by simp [qal] at ht),fun g hg=>(by simp [qfk] at hg),fun g hg=>(by simp [qcc] at hg)⟩
  . have : t = 22 := by simpa [Tryz.params4] using ht
    subst this
    all_goals exact ⟨by kernel_rfl,of_decide_eq_true (by kernel_rfl)⟩
  . match ds,hds with
    | [d0],_=>exact ⟨rfl,rfl,rfl⟩
  . match dss,h with
    | [a0],⟨h0,_⟩ =>
      obtain ⟨_,_,rfl,e0_0,h0⟩ := u6 h0
      obtain rfl := qD h0
      obtain ⟨_,rfl⟩ := qC e0_0
      exact law_XP ..
theorem qnk : Rows.FnExploredSaid :=
  OpenClaim.holds_of_wide 4 Tryz.f4 rfl rfl rfl rfl rfl rfl rfl ⟨rfl,rfl,rfl,rfl,rfl⟩ rfl rfl rfl rfl rfl (by kernel_rfl) Tryz.func4 (by kernel_rfl)
    (of_decide_eq_true (by kernel_rfl)) (by unfold Func.isWrapper;first|(rw [if_pos (by decide +kernel)];kernel_rfl)|(rw [if_neg (by decide +kernel)];exact rr))
    (fun os started H enc _=>fnExplored_lifted os started H enc)
theorem fnExplored_card : Rows.FnExploredCardSaid :=
  Claim7.holds_tied_plain_at .later [] [.data,.data,.data] true (true, "414746790bf46c444e0c8d92f3c040f52ba7f979e2cf180cb3cccdc64c1ba13a") false
    qnk (fun _ h=>by cases h) (by kernel_rfl) (fun _ h=>by cases h) fnExplored_row_tie rfl rr (by kernel_rfl) rfl
    (fun f fn hf hfn=>by
      obtain rfl : f = 4 := Option.some.inj ((show Tryz.prog.funcNamed "loop.example/g03219/laws.FnExplored" = some 4 by kernel_rfl).symm.trans hf) |>.symm
      obtain rfl : fn = Tryz.f4 := (Option.some.inj (Tryz.func4.symm.trans hfn)).symm
      refine ⟨by kernel_rfl,fun j t ht=>?_⟩
      have hm : t ∈ Tryz.f4.params.toList := by
        rw [<- Array.mem_def];exact Array.mem_of_getElem? ht
      have h3 : t = 22 := by simpa [Tryz.params4] using hm
      subst h3
      . exact (show Tryz.prog.wantsStandIn 22 = false by kernel_rfl))
    (by kernel_rfl)
end Go.Proofs.YtfhkodimclmcdaaGreatDoor
