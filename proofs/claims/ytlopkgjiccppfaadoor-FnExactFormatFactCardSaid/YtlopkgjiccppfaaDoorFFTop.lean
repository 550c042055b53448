/- FnExactFormatFact is proved: the law answers true for all arguments; its tied card holds. No condition. -/
import Derived.Test.YtlopkgjiccppfaaDoorTop
import Derived.Test.YtlopkgjiccppfaaDoorLawFF
import Derived.Test.YtlopkgjiccppfaaDoorCards
import Derived.Test.YtlopkgjiccppfaaDoorTie
import Derived.LaidHandle
import Derived.Lib.LaidIn
import Derived.Lib.LaidTab
import Derived.Stop.LaidErr
import Derived.SevenTiedAt
namespace Go.Proofs.YtlopkgjiccppfaaDoor
open Go Vg Go.ChangeShapes Go.WideShapes Go.ChangeAt Go.RowKit

theorem Tryd.own : ownKnob Tryd.prog.godebug = none := by kernel_rfl
theorem Tryd.laidOut : laidOutB Tryd.prog = true := by kernel_rfl

/-- the cells that a listed table holds -/
def tabOf : DataW Unit → Array Value
  | .agg l => (l.map fun
    | .lit (.int k z) => Value.int k z
    | _ => .nilIface).toArray
  | _ => #[]
/-- a world that meets the condition: the settled one, the listed tables laid -/
noncomputable def laidWorld (os : Os) : World :=
  let put (h : Array Obj) (g : Nat) (cs : Array Value) : Array Obj := h.modify g fun
    | .cells _ t frozen => .cells cs t frozen
    | o => o
  let w0 := World.holding Tryd.prog os ⟨#[], #[], []⟩
  { w0 with heap := (put (put (put w0.heap 6 (tabOf Rows.laid_math_bits_deBruijn32tab)) 7 (tabOf Rows.laid_math_bits_deBruijn64tab)) 1 (tabOf Rows.laid_internal_strconv_uint64pow10)) }
set_option maxRecDepth 1000000 in
theorem laid_in (os : Os) (args : Array Value) : laidMet Tryd.prog Rows.fnExactFormatFactRow.laid ((laidWorld os).forCall (fun _ _ => 0) ⟨#[], args, []⟩).memory :=
  (LaidIn.of_run [6, 7, 1] 10 (by kernel_rfl) (by kernel_rfl) (by kernel_rfl) (by kernel_rfl)).met
theorem laid_tab {W : World} (h : laidMetH Tryd.prog Rows.fnExactFormatFactRow.laid W) : Lib.TabIs Tryd.prog W "internal/strconv.uint64pow10" .u64 Lib.pow10Tab := by
  have h1 : laidMet Tryd.prog Rows.fnExactFormatFactRow.laid W := h
  have h2 := h1.tail
  have h3 := h2.tail
  exact Lib.tabIs_of_head (t := 92) (e := 80) (n := 20) (g := 1) (by kernel_rfl) (by kernel_rfl) (by kernel_rfl) (by kernel_rfl) (by kernel_rfl) (by kernel_rfl) h3

set_option maxRecDepth 100000 in
theorem fnExactFormatFact_lifted (os : Os) (started : os.Started) (H : Type) (enc : TypeId × Value → H) :
    ReturnsInHanded {} Tryd.checked os 3 .any (fun w args => (Rows.fnExactFormatFactSpec.pre enc Tryd.prog Tryd.f3 [] false w args ∧ laidMetH Tryd.prog Rows.fnExactFormatFactRow.laid w) ∧ sizedMet enc Tryd.prog Tryd.f3 (OpenSpec.ofChange Rows.fnExactFormatFactSpec) false w args)
      (Rows.fnExactFormatFactSpec.post enc Tryd.prog Tryd.f3 false true false false) := by
  refine returnsInHanded_of_change_and (C := Tryd.checked) (X := fun w _ => laidMetH Tryd.prog Rows.fnExactFormatFactRow.laid w) (fun _ _ _ hh h => h.of_heap hh) Tryd.own started (by kernel_rfl) Tryd.func3
    (ChangeSpec.witness_at (enc := enc) (C := Tryd.checked) (os := os) (X := fun w _ => laidMetH Tryd.prog Rows.fnExactFormatFactRow.laid w) false (laidWorld os) #[.agg #[.int .i64 0, .int .i64 0, .int .i64 0, .slice none 0 0], .agg #[.int .i64 0, .int .i64 0, .int .i64 0, .int .i64 0]] 8 rfl (by kernel_rfl) (by kernel_rfl) (by kernel_rfl) (by kernel_rfl) (by kernel_rfl) (laid_in os _)) ?_
  intro W base args ds gs before hval hW _ _ hL _
  refine law_post (P := Tryd.prog) (f := 9) (tb := 4) (shs := [[i64, i64, i64, .seq .inss], [i64, i64, i64, i64]]) tauOk Tryd.laidOut (fun t ht => ?_) rfl rfl rfl (fun ds hds => ?_) rfl (fun dss h => ?_) hval hW (tabH_one (laid_tab hL) (by kernel_rfl) rfl rfl)
  · have : t = 24 ∨ t = 26 := by simpa [Tryd.params3] using ht
    rcases this with rfl | rfl
    all_goals exact ⟨by kernel_rfl, of_decide_eq_true (by kernel_rfl)⟩
  · match ds, hds with
    | [d0, d1], _ => exact ⟨rfl, rfl, rfl⟩
  · match dss, h with
    | [a0, a1], ⟨h0, h1, _⟩ =>
      obtain ⟨_, _, rfl, e0_0, h0⟩ := ShL_cons h0
      obtain ⟨_, _, rfl, e0_1, h0⟩ := ShL_cons h0
      obtain ⟨_, _, rfl, e0_2, h0⟩ := ShL_cons h0
      obtain ⟨_, _, rfl, e0_3, h0⟩ := ShL_cons h0
      obtain rfl := ShL_nil h0
      obtain ⟨_, rfl⟩ := ok_int e0_0
      obtain ⟨_, rfl⟩ := ok_int e0_1
      obtain ⟨_, rfl⟩ := ok_int e0_2
      obtain ⟨_, rfl⟩ := ok_seq e0_3
      obtain ⟨_, _, rfl, e1_0, h1⟩ := ShL_cons h1
      obtain ⟨_, _, rfl, e1_1, h1⟩ := ShL_cons h1
      obtain ⟨_, _, rfl, e1_2, h1⟩ := ShL_cons h1
      obtain ⟨_, _, rfl, e1_3, h1⟩ := ShL_cons h1
      obtain rfl := ShL_nil h1
      obtain ⟨_, rfl⟩ := ok_int e1_0
      obtain ⟨_, rfl⟩ := ok_int e1_1
      obtain ⟨_, rfl⟩ := ok_int e1_2
      obtain ⟨_, rfl⟩ := ok_int e1_3
      exact law_FF ..

theorem fnExactFormatFact_row : Rows.FnExactFormatFactSaid :=
  OpenClaim.holds_of_wide 3 Tryd.f3 rfl rfl rfl rfl rfl rfl rfl ⟨rfl, rfl, rfl, rfl, rfl⟩ rfl rfl rfl rfl rfl (by kernel_rfl) Tryd.func3 (by kernel_rfl)
    (of_decide_eq_true (by kernel_rfl)) (by unfold Func.isWrapper; first | (rw [if_pos (by decide +kernel)]; kernel_rfl) | (rw [if_neg (by decide +kernel)]; exact ⟨rfl, rfl⟩))
    (fun os started H enc _ => fnExactFormatFact_lifted os started H enc)

theorem fnExactFormatFact_card : Rows.FnExactFormatFactCardSaid :=
  Claim7.holds_tied_plain_at .later [] [.data, .data, .data] true (true, "8cb554c8dd195cbafa58b8aba82aac3b568fcdabe55b36d7bc5ddfe622474c4b") true
    fnExactFormatFact_row (fun _ h => by cases h) (by kernel_rfl) (fun _ h => by cases h) fnExactFormatFact_row_tie rfl ⟨rfl, rfl⟩ (by kernel_rfl) rfl
    (fun f fn hf hfn => by
      obtain rfl : f = 3 := Option.some.inj ((show Tryd.prog.funcNamed "loop.example/g03219/laws.FnExactFormatFact" = some 3 by kernel_rfl).symm.trans hf) |>.symm
      obtain rfl : fn = Tryd.f3 := (Option.some.inj (Tryd.func3.symm.trans hfn)).symm
      refine ⟨by kernel_rfl, fun j t ht => ?_⟩
      have hm : t ∈ Tryd.f3.params.toList := by
        rw [← Array.mem_def]; exact Array.mem_of_getElem? ht
      have h3 : t = 24 ∨ t = 26 := by simpa [Tryd.params3] using hm
      rcases h3 with rfl | rfl
      · exact (show Tryd.prog.wantsStandIn 24 = false by kernel_rfl)
      · exact (show Tryd.prog.wantsStandIn 26 = false by kernel_rfl))
    (by kernel_rfl)

end Go.Proofs.YtlopkgjiccppfaaDoor
