/- FnTexts is proved: the law answers true for all arguments; its tied card holds. No condition. -/
import Derived.Test.YtgbjdifegilniaaGreatDoorTy
import Derived.Test.YtgbjdifegilniaaGreatDoorLawXT
import Derived.Test.YtgbjdifegilniaaGreatDoorCards
import Derived.Test.YtgbjdifegilniaaGreatDoorTie
import Derived.LaidHandle
import Derived.Lib.LaidIn
import Derived.Lib.LaidTab
import Derived.Stop.LaidErr
import Derived.SevenTiedAt
import Derived.Handed
import Derived.Shelf.Vars
namespace Go.Proofs.YtgbjdifegilniaaGreatDoor
open Go Vg Go.ChangeShapes Go.WideShapes Go.ChangeAt Go.RowKit
set_option maxRecDepth 100000
set_option maxHeartbeats 40000000
theorem Tryz.own : ownKnob Tryz.prog.godebug = none := by kernel_rfl
theorem Tryz.laidOut : laidOutB Tryz.prog = true := by kernel_rfl
def cellD : DataW Unit → Value
  | .lit (.int k z) => Value.int k z
  | _ => .nilIface
def cellsD : DataW Unit → List Value
  | .agg l => l.map cellD
  | x => [cellD x]
def tabOf : DataW Unit → Array Value
  | .agg l => (l.flatMap cellsD).toArray
  | _ => #[]
noncomputable def low : Nat := (World.holding Tryz.prog default ⟨#[], #[], []⟩).heap.size
noncomputable def xW (os : Os) : World :=
  let put (h : Array Obj) (g : Nat) (cs : Array Value) : Array Obj := h.modify g fun
    | .cells _ t frozen => .cells cs t frozen
    | o => o
  let w0 := World.holding Tryz.prog os ⟨#[.cells #[.string { data := #[118, 97, 108, 117, 101, 32, 111, 117, 116, 32, 111, 102, 32, 114, 97, 110, 103, 101] }] 171, .cells #[.string { data := #[105, 110, 118, 97, 108, 105, 100, 32, 115, 121, 110, 116, 97, 120] }] 171], #[], []⟩
  { w0 with heap := (put (put (put (put (put (put (put w0.heap 6 (tabOf Rows.laid_math_bits_deBruijn32tab)) 7 (tabOf Rows.laid_math_bits_deBruijn64tab)) 5 (tabOf Rows.laid_internal_strconv_uint64pow10)) 4 (tabOf Rows.laid_unicode_utf8_acceptRanges)) 2 #[.iface 169 (.pointer (some ⟨low + 0, 0, none⟩))]) 1 #[.iface 169 (.pointer (some ⟨low + 1, 0, none⟩))]) 3 (tabOf Rows.laid_unicode_utf8_first)) }
theorem laid_in (os : Os) (args : Array Value) : laidMet Tryz.prog Rows.fnTextsRow.laid ((xW os).forCall (fun _ _ => 0) ⟨#[], args, []⟩).memory :=
  (LaidIn.of_run ([6, 7, 5, 4, 2, 1, 3] ++ [low + 0, low + 1]) 10 (by kernel_rfl) (by kernel_rfl) (by kernel_rfl) (by kernel_rfl)).met
theorem qda {W : World} (h : laidMetH Tryz.prog Rows.fnTextsRow.laid W) : Lib.TabIs Tryz.prog W "internal/strconv.uint64pow10" .u64 Lib.pow10Tab := by
  have h1 : laidMet Tryz.prog Rows.fnTextsRow.laid W := h
  have h2 := h1.tail
  have h3 := h2.tail
  exact Lib.tabIs_of_head (t := 173) (e := 148) (n := 20) (g := 5) (by kernel_rfl) (by kernel_rfl) (by kernel_rfl) (by kernel_rfl) (by kernel_rfl) (by kernel_rfl) h3
theorem dU (u : TypeId) (h : Tryz.prog.typeName? 3 u = some "*errors.errorString") : u = 169 :=
  typeName_ptr_named (nm := "errors.errorString") (by rw [show "*" ++ "errors.errorString" = "*errors.errorString" from by decide]; kernel_rfl) (by kernel_rfl) (by decide) u (by rw [show "*" ++ "errors.errorString" = "*errors.errorString" from by decide]; exact h)
theorem qdb {W : World} (h : laidMetH Tryz.prog Rows.fnTextsRow.laid W) : ∃ v, hcell W.heap 2 0 = some v ∧ (v = .nilIface ∨ ∃ t x, v = .iface t x) := by
  have h1 : laidMet Tryz.prog Rows.fnTextsRow.laid W := h
  have h2 := h1.tail
  have h3 := h2.tail
  have h4 := h3.tail
  have h5 := h4.tail
  obtain ⟨a, s, hv, _, _, _⟩ := laid_sentinel (g := 2) (ti := 86) (tp := 169) (te := 171) h5 (by kernel_rfl) (by kernel_rfl) Tryz.underlying86 dU Tryz.underlying169 Tryz.underlying171 rfl rfl Tryz.underlying9 (by kernel_rfl) (by kernel_rfl)
  refine ⟨.iface 169 (.pointer (some a)), ?_, .inr ⟨_, _, rfl⟩⟩
  have := World.var?_cell (g := 2) (by kernel_rfl) hv 0
  rw [← j9]
  simpa using this
theorem qdc {W : World} (h : laidMetH Tryz.prog Rows.fnTextsRow.laid W) : ∃ v, hcell W.heap 1 0 = some v ∧ (v = .nilIface ∨ ∃ t x, v = .iface t x) := by
  have h1 : laidMet Tryz.prog Rows.fnTextsRow.laid W := h
  have h2 := h1.tail
  have h3 := h2.tail
  have h4 := h3.tail
  have h5 := h4.tail
  have h6 := h5.tail
  obtain ⟨a, s, hv, _, _, _⟩ := laid_sentinel (g := 1) (ti := 86) (tp := 169) (te := 171) h6 (by kernel_rfl) (by kernel_rfl) Tryz.underlying86 dU Tryz.underlying169 Tryz.underlying171 rfl rfl Tryz.underlying9 (by kernel_rfl) (by kernel_rfl)
  refine ⟨.iface 169 (.pointer (some a)), ?_, .inr ⟨_, _, rfl⟩⟩
  have := World.var?_cell (g := 1) (by kernel_rfl) hv 0
  rw [← j9]
  simpa using this
theorem num_0 {W : World} (h : W.ShapedOpen Tryz.prog) : ∃ m, hcell W.heap 0 0 = some (.int .i64 m) := by
  obtain ⟨m, hm⟩ := cell_of_shapedOpen_int (g := 0) (t := 3) (zero := #[.int .i64 0]) (k := .i64) h (of_decide_eq_true (by kernel_rfl)) (by kernel_rfl) rfl (by kernel_rfl) (by kernel_rfl) (by kernel_rfl)
  exact ⟨m, by rw [← j9]; exact hm⟩
theorem tab_h {W : World} (h : laidMetH Tryz.prog Rows.fnTextsRow.laid W) (hs : W.ShapedOpen Tryz.prog) : TabH W.heap (allIm W) := by
  refine qbn (qda h) (by kernel_rfl) rfl (fun g hg => ?_) (fun g hg => ?_)
  · have hg2 : g = 1 ∨ g = 2 := by simpa [pJ] using hg
    rcases hg2 with rfl | rfl
    · exact qdc h
    · exact qdb h
  · have hg2 : g = 0 := by simpa [uI] using hg
    subst hg2
    · exact num_0 hs
theorem qeb {H : Type} {enc : TypeId × Value → H} {a : Assume} {C : Checked} {os : Os} {f : FuncId} {fn : Func} {s : ChangeSpec} {conds : List PathCond} {apart fresh handsOn sF : Bool} {X : World → Array Value → Prop}
    (hX : ∀ (w w' : World) (args : Array Value), w.heap = w'.heap → X w args → X w' args)
    (own : ownKnob C.prog.godebug = none) (started : os.Started) (noInit : C.prog.inits.idxOf? f = none) (hfn : C.prog.funcs[f]? = some fn)
    (witness : ∃ (w : World) (tape : Tape) (i : Input), w.os = os ∧ (w.forCall tape i).Shaped C.prog ∧ i.vars = [] ∧ Input.okWide C.prog (w.forCall tape i) .any w.heap.size f i ∧
      ((s.pre enc C.prog fn conds apart (w.forCall tape i).memory i.args ∧ X (w.forCall tape i).memory i.args) ∧ sizedMet enc C.prog fn (OpenSpec.ofChange s) apart (w.forCall tape i).memory i.args) ∧ a.holds C.prog (lone (Frame.enter C.prog f i.args .normal) [] (w.forCall tape i)))
    (contract : ∀ (W : World) (base : Nat) (args : Array Value) (ds gs : List (DataW H)) (before : List MemPlace),
      (∀ (j : Nat) t v, fn.params[j]? = some t → args[j]? = some v → Value.okWide C.prog W .any base t v) →
      DataW.Whole enc C.prog fn.params.toList s.vars apart W args.toList ds gs before → X W args → W.ShapedOpen C.prog →
      Calls C.prog f args W fun e W' => ∃ v, e = .returned v ∧ s.post enc C.prog fn apart fresh handsOn sF W args v W') :
    ReturnsInHanded a C os f .any (fun w args => (s.pre enc C.prog fn conds apart w args ∧ X w args) ∧ sizedMet enc C.prog fn (OpenSpec.ofChange s) apart w args) (s.post enc C.prog fn apart fresh handsOn sF) := by
  refine returnsInHanded_of_calls own started noInit witness (fun w tape i _ hsh _ hok hpre _ => ?_)
  obtain ⟨_, _, _, fn', hfn', _, _, _, _, hval⟩ := hok
  have e : fn' = fn := Option.some.inj (hfn'.symm.trans hfn)
  subst e
  obtain ⟨⟨⟨ds, gs, before, hw, _⟩, hx⟩, _⟩ := hpre
  refine (contract (w.forCall tape i) w.heap.size i.args ds gs before hval (DataW.Whole.of_heap (w' := w.forCall tape i) (by rfl) hw) (hX _ _ _ (by rfl) hx) hsh).mono fun e W' ⟨v, he, hp⟩ => ?_
  subst he
  exact ChangeSpec.post_blind hp
theorem fnTexts_lifted (os : Os) (started : os.Started) (H : Type) (enc : TypeId × Value → H) :
    ReturnsInHanded {} Tryz.checked os 3 .any (fun w args => (Rows.fnTextsSpec.pre enc Tryz.prog Tryz.f3 [] false w args ∧ laidMetH Tryz.prog Rows.fnTextsRow.laid w) ∧ sizedMet enc Tryz.prog Tryz.f3 (OpenSpec.ofChange Rows.fnTextsSpec) false w args)
      (Rows.fnTextsSpec.post enc Tryz.prog Tryz.f3 false true false false) := by
  refine qeb (C := Tryz.checked) (X := fun w _ => laidMetH Tryz.prog Rows.fnTextsRow.laid w) (fun _ _ _ hh h => h.of_heap hh) Tryz.own started (by kernel_rfl) Tryz.func3
    (ChangeSpec.witness_at (enc := enc) (C := Tryz.checked) (os := os) (X := fun w _ => laidMetH Tryz.prog Rows.fnTextsRow.laid w) false (xW os) #[.slice none 0 0] 8 rfl (by kernel_rfl) (by kernel_rfl) (by kernel_rfl) (by kernel_rfl) (by kernel_rfl) (laid_in os _)) ?_
  intro W base args ds gs before hval hW hL hS
  refine qc9 (P := Tryz.prog) (f := 9) (tb := 4) (shs := [[.seq .bytes]]) lK (recAll (A := []) (fun x hx => by cases hx)) Tryz.laidOut (fun t ht => ?_) rfl rfl rfl (fun ds hds => ?_) rfl (fun dss h => ?_) hval hW (tab_h hL hS)
  · have : t = 22 := by simpa [Tryz.params3] using ht
    subst this
    all_goals exact ⟨by kernel_rfl, of_decide_eq_true (by kernel_rfl)⟩
  · match ds, hds with
    | [d0], _ => exact ⟨rfl, rfl, rfl⟩
  · match dss, h with
    | [a0], ⟨h0, _⟩ =>
      obtain ⟨_, _, rfl, e0_0, h0⟩ := s5 h0
      obtain rfl := fB h0
      obtain ⟨_, rfl⟩ := mA e0_0
      exact law_XT ..
theorem qeo : Rows.FnTextsSaid :=
  OpenClaim.holds_of_wide 3 Tryz.f3 rfl rfl rfl rfl rfl rfl rfl ⟨rfl, rfl, rfl, rfl, rfl⟩ rfl rfl rfl rfl rfl (by kernel_rfl) Tryz.func3 (by kernel_rfl)
    (of_decide_eq_true (by kernel_rfl)) (by unfold Func.isWrapper; first | (rw [if_pos (by decide +kernel)]; kernel_rfl) | (rw [if_neg (by decide +kernel)]; exact ⟨rfl, rfl⟩))
    (fun os started H enc _ => fnTexts_lifted os started H enc)
theorem fnTexts_card : Rows.FnTextsCardSaid :=
  Claim7.holds_tied_plain_at .later [] [.data, .data, .data, .data, .sentinel, .sentinel, .pinned] true (true, "b21184b839a2d17182f89fafa8a361dc36fc50c0be1e5e512f7b8b9cd0db6503") true
    qeo (fun _ h => by cases h) (by kernel_rfl) (fun _ h => by cases h) fnTexts_row_tie rfl ⟨rfl, rfl⟩ (by kernel_rfl) rfl
    (fun f fn hf hfn => by
      obtain rfl : f = 3 := Option.some.inj ((show Tryz.prog.funcNamed "loop.example/g03219/laws.FnTexts" = some 3 by kernel_rfl).symm.trans hf) |>.symm
      obtain rfl : fn = Tryz.f3 := (Option.some.inj (Tryz.func3.symm.trans hfn)).symm
      refine ⟨by kernel_rfl, fun j t ht => ?_⟩
      have hm : t ∈ Tryz.f3.params.toList := by
        rw [← Array.mem_def]; exact Array.mem_of_getElem? ht
      have h3 : t = 22 := by simpa [Tryz.params3] using hm
      subst h3
      · exact (show Tryz.prog.wantsStandIn 22 = false by kernel_rfl))
    (by kernel_rfl)
end Go.Proofs.YtgbjdifegilniaaGreatDoor
