/- The machine: a step. Condition: the state is one of the program's. -/
import Derived.Test.YtnjkencoohaheaaPerf
namespace Vg
open Go Go.Proofs

theorem not_both {p q : Prop} [Decidable p] [Decidable q] (h : (decide p && decide q) = false) : ¬ (p ∧ q) := by simpa using h
theorem both {p q : Prop} [Decidable p] [Decidable q] (h : (decide p && decide q) = true) : p ∧ q := by simpa using h
theorem word_nn {w x : Int} (h : wordP w x = true) : 0 ≤ x := by
  simp only [wordP, inP, Bool.and_eq_true, decide_eq_true_eq] at h; exact h.2.1
theorem step_0 {p : V.Prog} {s : V.State} {inp : List Int} (h : ¬ (s.code = 0 ∧ s.steps < 400)) : stepM p s inp = s := by unfold stepM; rw [if_neg h]
theorem step_1 {p : V.Prog} {s : V.State} {inp : List Int} (h : s.code = 0 ∧ s.steps < 400) (h2 : s.pc = (p.code.length : Int)) : stepM p s inp = { s with code := 2 } := by unfold stepM; rw [if_pos h, if_pos h2]
theorem step_2 {p : V.Prog} {s : V.State} {inp : List Int} (h : s.code = 0 ∧ s.steps < 400) (h2 : ¬ s.pc = (p.code.length : Int)) (h3 : whyP p { s with steps := s.steps + 1 } (p.code.getD s.pc.toNat K.inss.dflt) = 0) :
    stepM p s inp = perfP p { s with steps := s.steps + 1 } (p.code.getD s.pc.toNat K.inss.dflt) inp := by unfold stepM; rw [if_pos h, if_neg h2, if_pos h3]
theorem step_3 {p : V.Prog} {s : V.State} {inp : List Int} (h : s.code = 0 ∧ s.steps < 400) (h2 : ¬ s.pc = (p.code.length : Int)) (h3 : ¬ whyP p { s with steps := s.steps + 1 } (p.code.getD s.pc.toNat K.inss.dflt) = 0) :
    stepM p s inp = { s with steps := s.steps + 1, code := whyP p { s with steps := s.steps + 1 } (p.code.getD s.pc.toNat K.inss.dflt) } := by unfold stepM; rw [if_pos h, if_neg h2, if_neg h3]
set_option maxHeartbeats 4000000 in
set_option maxRecDepth 100000 in
theorem i_step (w mem inn : Int) (c : List V.Ins) (pc : Int) (regs cells stack : List Int) (sin : Int) (out : List Int) (code steps : Int) (inp : List Int) (hp : progP ⟨w, mem, inn, c⟩ = true) (hM : MOk ⟨w, mem, inn, c⟩ ⟨pc, regs, cells, stack, sin, out, code, steps⟩) (hin : (inp.length : Int) = inn) (_hiw : ∀ x ∈ inp, wordP w x = true) : CallsG Try.prog 78 [.ptr 0 0, .agg [.dat (.i w), .dat (.i mem), .dat (.i inn), .dat (.seq .inss c)], .dat (.seq .ints inp)] [.box [.dat (.i pc), .row 1, .row 2, .row 3, .dat (.i sin), .row 4, .dat (.i code), .dat (.i steps)], .row 3 .ints regs false, .row 3 .ints cells false, .row 3 .ints stack false, .row 3 .ints out false] 1 (fun res B => res = .tup [] ∧ B = boxS (stepM ⟨w, mem, inn, c⟩ ⟨pc, regs, cells, stack, sin, out, code, steps⟩ inp)) := by
  refine CallsG.of_awp tauOk mixOk Try.func78 rfl rfl rfl ?_
  conv => whnf
  repeat' (first
    | ((with_reducible refine Alt.l ?_); conv => whnf)
    | ((with_reducible refine fun (K1 : AX → AState → Prop) hK => ?_); conv => whnf)
    | ((with_reducible show K1 _ _); subst hK; conv => whnf)
    | (with_reducible exact rfl)
    | ((with_reducible refine sp_T ?_); conv => whnf)
    | ((with_reducible refine sp_F ?_); conv => whnf)
    | ((with_reducible refine sp_T' ?_); conv => whnf)
    | ((with_reducible refine sp_F' ?_); conv => whnf)
    | ((with_reducible refine sp_dF ?_ ?_); decide; conv => whnf)
    | ((with_reducible refine sp_dT ?_ ?_); decide; conv => whnf)
    | ((with_reducible refine sp_d (fun h => ?_) (fun h => ?_)) <;> first | contradiction | (subst h; conv => whnf) | (conv => whnf))
    | ((with_reducible refine sp_d' (fun h => ?_) (fun h => ?_)) <;> first | contradiction | (subst h; conv => whnf) | (conv => whnf))
    | ((with_reducible refine sp_eF ?_ ?_); decide; conv => whnf)
    | ((with_reducible refine sp_eT ?_); conv => whnf)
    | ((with_reducible refine sp_e (fun h => ?_) (fun h => ?_)) <;> first | contradiction | (subst h; conv => whnf) | (conv => whnf))
    | ((with_reducible refine sp_e' (fun h => ?_) (fun h => ?_)) <;> first | contradiction | (subst h; conv => whnf) | (conv => whnf))
    | ((with_reducible refine sp_n (fun h => ?_) (fun h => ?_)) <;> first | contradiction | (subst h; conv => whnf) | (conv => whnf))
    | ((with_reducible refine sp_n' (fun h => ?_) (fun h => ?_)) <;> first | contradiction | (subst h; conv => whnf) | (conv => whnf))
    | ((with_reducible refine sp_nb (fun h => ?_) (fun h => ?_)) <;> first | contradiction | (conv => whnf))
    | ((with_reducible refine sp_nb' (fun h => ?_) (fun h => ?_)) <;> first | contradiction | (conv => whnf))
    | ((with_reducible refine sp_b (fun h => ?_) (fun h => ?_)) <;> first | contradiction | (conv => whnf))
    | ((with_reducible refine sp_b' (fun h => ?_) (fun h => ?_)) <;> first | contradiction | (conv => whnf))
    | (refine ⟨(rfl : nodupB _ = true), rfl, ?_⟩; conv => whnf)
    | (with_reducible refine bnd2 ?_ ?_)
    | (with_reducible refine bnd2' ?_ ?_)
    | (with_reducible refine bndN ?_ ?_)
    | ((with_reducible refine and_of ?_ ?_); conv => whnf)
    | ((with_reducible refine gcI (g := 77) ?_); refine ⟨_, _, i_moves .., fun res B hRB => ?_⟩; rotate_right; obtain ⟨rfl, rfl⟩ := hRB; conv => whnf)
    | ((with_reducible refine gcI (g := 118) ?_); refine ⟨_, _, i_trouble (hi := ?_) (hr := ?_) (hl := ?_) .., fun res B hRB => ?_⟩; rotate_right; obtain ⟨rfl, rfl⟩ := hRB; conv => whnf)
    | ((with_reducible refine gcI (g := 119) ?_); refine ⟨_, _, i_perform (hi := ?_) (hr := ?_) (hm := ?_) (hl := ?_) (hpc := ?_) (hsi := ?_) (hin := ?_) (hso := ?_) (hst := ?_) (hw := ?_) (hy := ?_) .., fun res B hRB => ?_⟩; rotate_right; obtain ⟨rfl, rfl⟩ := hRB; conv => whnf)
    | ((with_reducible show awpOps _ _ _ _ _ _); conv => whnf)
    | (intro h; conv => whnf))
  all_goals (repeat (clear hK; clear K1))
  all_goals
    have q1 := hM.pc
    have q2 := hM.inn
    have q3 := hM.steps
    have q4 := prog_w hp
    simp only at q1 q2 q3 q4
    have e1 : IntKind.i64.wrap (steps + 1) = steps + 1 := wrap_id (by omega) (by omega)
    first
      | assumption
      | rfl
      | exact hM.regs
      | exact hM.mem
      | exact hM.inn
      | exact hM.out
      | exact hM.stk
      | omega
      | exact (congrArg boxS (step_0 (p := ⟨w, mem, inn, c⟩) (s := ⟨pc, regs, cells, stack, sin, out, code, steps⟩) (inp := inp) (not_both h))).symm
      | exact (congrArg boxS (step_1 (p := ⟨w, mem, inn, c⟩) (s := ⟨c.length, regs, cells, stack, sin, out, code, steps⟩) (inp := inp) (both h) rfl)).symm
      | (simp only [e1] at h ⊢; exact (congrArg boxS (step_3 (p := ⟨w, mem, inn, c⟩) (s := ⟨pc, regs, cells, stack, sin, out, code, steps⟩) (inp := inp) (both (by assumption)) (by assumption) h)).symm)
      | (simp only [e1] at h ⊢; exact (congrArg boxS (step_2 (p := ⟨w, mem, inn, c⟩) (s := ⟨pc, regs, cells, stack, sin, out, code, steps⟩) (inp := inp) (both (by assumption)) (by assumption) h)).symm)
      | exact prog_ins (p := ⟨w, mem, inn, c⟩) (k := pc.toNat) hp (by show pc.toNat < c.length; omega)
      | exact word_nn (hM.rw _ (by assumption))
      | (rw [e1]; exact h)
      | skip
end Vg
