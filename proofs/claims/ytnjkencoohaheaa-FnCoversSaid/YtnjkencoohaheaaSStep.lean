/- The machine: the reference's step. Condition: the state is one of the program's. -/
import Derived.Test.YtnjkencoohaheaaMStep
namespace Vg
open Go Go.Proofs

def avS (s : V.State) : AV := .agg [.dat (.i s.pc), .row 0, .row 1, .row 2, .dat (.i s.inn), .row 3, .dat (.i s.code), .dat (.i s.steps)]
def rowsS (s : V.State) : List Blk := [.row 3 .ints s.regs false, .row 3 .ints s.mem false, .row 3 .ints s.stack false, .row 3 .ints s.out false]
def datS (s : V.State) : AV := .agg [.dat (.i s.pc), .dat (.seq .ints s.regs), .dat (.seq .ints s.mem), .dat (.seq .ints s.stack), .dat (.i s.inn), .dat (.seq .ints s.out), .dat (.i s.code), .dat (.i s.steps)]
theorem why_both {op x : Int} (h : (if op = 14 then 1 else x) = 0) : ¬ op = 14 ∧ x = 0 := by
  split at h
  · cases h
  · exact ⟨by assumption, h⟩
theorem step_at {w mem inn : Int} {c : List V.Ins} {pc : Int} {regs cells stack : List Int} {sin : Int} {out : List Int} {steps : Int} {inp : List Int} {op a b d : Int} (hI : c.getD pc.toNat K.inss.dflt = ⟨op, a, b, d⟩)
    (h4 : steps < 400) (hpc : ¬ pc = (c.length : Int)) (hy : whyP ⟨w, mem, inn, c⟩ ⟨pc, regs, cells, stack, sin, out, 0, steps + 1⟩ ⟨op, a, b, d⟩ = 0) :
    stepM ⟨w, mem, inn, c⟩ ⟨pc, regs, cells, stack, sin, out, 0, steps⟩ inp = perfP ⟨w, mem, inn, c⟩ ⟨pc, regs, cells, stack, sin, out, 0, steps + 1⟩ ⟨op, a, b, d⟩ inp := by
  rw [step_2 ⟨rfl, h4⟩ hpc (by rw [hI]; exact hy), hI]
theorem step_no {w mem inn : Int} {c : List V.Ins} {pc : Int} {regs cells stack : List Int} {sin : Int} {out : List Int} {steps : Int} {inp : List Int} {op a b d : Int} (hI : c.getD pc.toNat K.inss.dflt = ⟨op, a, b, d⟩)
    (h4 : steps < 400) (hpc : ¬ pc = (c.length : Int)) (hy : ¬ (if op = 14 then 1 else whyP ⟨w, mem, inn, c⟩ ⟨pc, regs, cells, stack, sin, out, 0, steps + 1⟩ ⟨op, a, b, d⟩) = 0) :
    stepM ⟨w, mem, inn, c⟩ ⟨pc, regs, cells, stack, sin, out, 0, steps⟩ inp = ⟨pc, regs, cells, stack, sin, out, if op = 14 then 1 else whyP ⟨w, mem, inn, c⟩ ⟨pc, regs, cells, stack, sin, out, 0, steps + 1⟩ ⟨op, a, b, d⟩, steps + 1⟩ := by
  by_cases ho : op = 14
  · subst ho
    rw [step_2 ⟨rfl, h4⟩ hpc (by rw [hI]; rfl), hI]
    rfl
  · rw [if_neg ho] at hy ⊢
    rw [step_3 ⟨rfl, h4⟩ hpc (by rw [hI]; exact hy), hI]
set_option maxHeartbeats 4000000 in
set_option maxRecDepth 100000 in
theorem s_l05Step (w mem inn : Int) (c : List V.Ins) (pc : Int) (regs cells stack : List Int) (sin : Int) (out : List Int) (code steps : Int) (inp : List Int) (hp : progP ⟨w, mem, inn, c⟩ = true) (hM : MOk ⟨w, mem, inn, c⟩ ⟨pc, regs, cells, stack, sin, out, code, steps⟩) (hin : (inp.length : Int) = inn) (_hiw : ∀ x ∈ inp, wordP w x = true) : CallsG Try.prog 72 [.agg [.dat (.i w), .dat (.i mem), .dat (.i inn), .dat (.seq .inss c)], .agg [.dat (.i pc), .row 0, .row 1, .row 2, .dat (.i sin), .row 3, .dat (.i code), .dat (.i steps)], .dat (.seq .ints inp)] [.row 3 .ints regs false, .row 3 .ints cells false, .row 3 .ints stack false, .row 3 .ints out false] 0 (fun res B => res = avS (stepM ⟨w, mem, inn, c⟩ ⟨pc, regs, cells, stack, sin, out, code, steps⟩ inp) ∧ B = rowsS (stepM ⟨w, mem, inn, c⟩ ⟨pc, regs, cells, stack, sin, out, code, steps⟩ inp)) := by
  refine CallsG.of_awp tauOk mixOk Try.func72 rfl rfl rfl ?_
  conv => whnf
  repeat' (first
    | ((with_reducible refine Alt.l ?_); conv => whnf)
    | ((with_reducible refine fun (K1 : AX → AState → Prop) hK => ?_); conv => whnf)
    | ((with_reducible show K1 _ _); subst hK; conv => whnf)
    | (with_reducible exact rfl)
    | ((with_reducible refine sp_T ?_); conv => whnf)
    | ((with_reducible refine sp_F ?_); conv => whnf)
    | ((with_reducible refine sp_T' ?_); conv => whnf)
    | ((with_reducible refine sp_F' ?_); conv => whnf)
    | ((with_reducible refine sp_dF ?_ ?_); decide; conv => whnf)
    | ((with_reducible refine sp_dT ?_ ?_); decide; conv => whnf)
    | ((with_reducible refine sp_d (fun h => ?_) (fun h => ?_)) <;> first | contradiction | (subst h; conv => whnf) | (conv => whnf))
    | ((with_reducible refine sp_d' (fun h => ?_) (fun h => ?_)) <;> first | contradiction | (subst h; conv => whnf) | (conv => whnf))
    | ((with_reducible refine sp_eF ?_ ?_); decide; conv => whnf)
    | ((with_reducible refine sp_eT ?_); conv => whnf)
    | ((with_reducible refine sp_e (fun h => ?_) (fun h => ?_)) <;> first | contradiction | (subst h; conv => whnf) | (conv => whnf))
    | ((with_reducible refine sp_e' (fun h => ?_) (fun h => ?_)) <;> first | contradiction | (subst h; conv => whnf) | (conv => whnf))
    | ((with_reducible refine sp_n (fun h => ?_) (fun h => ?_)) <;> first | contradiction | (subst h; conv => whnf) | (conv => whnf))
    | ((with_reducible refine sp_n' (fun h => ?_) (fun h => ?_)) <;> first | contradiction | (subst h; conv => whnf) | (conv => whnf))
    | ((with_reducible refine sp_nb (fun h => ?_) (fun h => ?_)) <;> first | contradiction | (conv => whnf))
    | ((with_reducible refine sp_nb' (fun h => ?_) (fun h => ?_)) <;> first | contradiction | (conv => whnf))
    | ((with_reducible refine sp_b (fun h => ?_) (fun h => ?_)) <;> first | contradiction | (conv => whnf))
    | ((with_reducible refine sp_b' (fun h => ?_) (fun h => ?_)) <;> first | contradiction | (conv => whnf))
    | (refine ⟨(rfl : nodupB _ = true), rfl, ?_⟩; conv => whnf)
    | (with_reducible refine bnd2 ?_ ?_)
    | (with_reducible refine bnd2' ?_ ?_)
    | (with_reducible refine bndN ?_ ?_)
    | ((with_reducible refine and_of ?_ ?_); conv => whnf)
    | ((with_reducible refine pcI (g := 112) ?_); refine ⟨_, s_l05Why (hi := ?_) (hr := ?_) (hsi := ?_) (hso := ?_) (hst := ?_) .., rfl, ?_⟩; rotate_right; conv => whnf)
    | ((with_reducible show Exists _); refine Exists.intro _ (And.intro (s_l05Why (hi := ?_) (hr := ?_) (hsi := ?_) (hso := ?_) (hst := ?_) ..) (And.intro rfl ?_)); rotate_right; conv => whnf)
    | ((with_reducible refine pcI (g := 113) ?_); refine ⟨_, s_ApplyBinary .., rfl, ?_⟩; rotate_right; conv => whnf)
    | ((with_reducible show Exists _); refine Exists.intro _ (And.intro (s_ApplyBinary ..) (And.intro rfl ?_)); rotate_right; conv => whnf)
    | ((with_reducible refine pcI (g := 114) ?_); refine ⟨_, s_ApplyUnary .., rfl, ?_⟩; rotate_right; conv => whnf)
    | ((with_reducible show Exists _); refine Exists.intro _ (And.intro (s_ApplyUnary ..) (And.intro rfl ?_)); rotate_right; conv => whnf)
    | ((with_reducible show awpOps _ _ _ _ _ _); conv => whnf)
    | (intro h; conv => whnf))
  all_goals (repeat (clear hK; clear K1))
  all_goals first
    | exact (congrArg rowsS (step_0 (p := ⟨w, mem, inn, c⟩) (s := ⟨pc, regs, cells, stack, sin, out, code, steps⟩) (inp := inp) (fun x => absurd x.1 h))).symm
    | exact (congrArg avS (step_0 (p := ⟨w, mem, inn, c⟩) (s := ⟨pc, regs, cells, stack, sin, out, code, steps⟩) (inp := inp) (fun x => absurd x.1 h))).symm
    | exact (congrArg rowsS (step_0 (p := ⟨w, mem, inn, c⟩) (s := ⟨pc, regs, cells, stack, sin, out, 0, 400⟩) (inp := inp) (fun x => Int.lt_irrefl _ x.2))).symm
    | exact (congrArg avS (step_0 (p := ⟨w, mem, inn, c⟩) (s := ⟨pc, regs, cells, stack, sin, out, 0, 400⟩) (inp := inp) (fun x => Int.lt_irrefl _ x.2))).symm
    | exact (congrArg rowsS (step_1 (p := ⟨w, mem, inn, c⟩) (s := ⟨c.length, regs, cells, stack, sin, out, 0, steps⟩) (inp := inp) ⟨rfl, by have := hM.steps; simp only at this; show steps < 400; omega⟩ rfl)).symm
    | exact (congrArg avS (step_1 (p := ⟨w, mem, inn, c⟩) (s := ⟨c.length, regs, cells, stack, sin, out, 0, steps⟩) (inp := inp) ⟨rfl, by have := hM.steps; simp only at this; show steps < 400; omega⟩ rfl)).symm
    | skip
  all_goals
    have q1 : 0 ≤ pc ∧ pc ≤ c.length := hM.pc
    have hsi : 0 ≤ sin ∧ sin ≤ inn := hM.inn
    have q3 : 0 ≤ steps ∧ steps ≤ 400 := hM.steps
    have hst : stack.length ≤ 3 := hM.stk
    have hso : out.length ≤ 6 := hM.out
    have hr : regs.length = 4 := hM.regs
    have hm : (cells.length : Int) = mem := hM.mem
    obtain ⟨_, q4, q5, q6, q7, q8, q9⟩ := prog_w hp
    simp only at q4 q5 q6 q7 q8 q9
    have e1 : IntKind.i64.wrap (pc + 1) = pc + 1 := wrap_id (by omega) (by omega)
    have e2 : IntKind.i64.wrap (sin + 1) = sin + 1 := wrap_id (by omega) (by omega)
    have e5 : IntKind.i64.wrap (steps + 1) = steps + 1 := wrap_id (by omega) (by omega)
    have hm' : maxLen = 9223372036854775807 := rfl
    have hw : ∀ x ∈ regs, 0 ≤ x := fun x hx => word_nn (hM.rw x hx)
    have h4 : steps < 400 := by omega
    have hpc : ¬ pc = (c.length : Int) := by assumption
    have hi : insP (c.getD pc.toNat K.inss.dflt) w c.length = true := prog_ins (p := ⟨w, mem, inn, c⟩) (k := pc.toNat) hp (by show pc.toNat < c.length; omega)
    generalize hI : c.getD pc.toNat K.inss.dflt = i at *
    obtain ⟨op, a, b, d⟩ := i
    simp only [e5] at *
  all_goals first
    | omega
    | assumption
    | exact (congrArg rowsS (step_no hI h4 hpc (by assumption))).symm
    | exact (congrArg avS (step_no hI h4 hpc (by assumption))).symm
    | skip
  all_goals
    obtain ⟨h14, hy⟩ := why_both (by assumption)
    try rw [step_at hI h4 hpc hy]
    try clear hM
    try simp only [hI] at *
  all_goals
    try subst_vars
    first
      | assumption
      | rfl
      | omega
      | (obtain ⟨q1, q2⟩ := ins_b hi (Or.inl rfl); omega)
      | (obtain ⟨q1, q2⟩ := ins_b hi (Or.inr (Or.inl rfl)); omega)
      | (obtain ⟨q1, q2⟩ := ins_b hi (Or.inr (Or.inr (Or.inl rfl))); omega)
      | (obtain ⟨q1, q2⟩ := ins_b hi (Or.inr (Or.inr (Or.inr rfl))); omega)
      | (obtain ⟨q1, q2⟩ := ins_a hi (by first | exact Or.inl rfl | exact Or.inr (Or.inl rfl) | exact Or.inr (Or.inr (Or.inl rfl)) | exact Or.inr (Or.inr (Or.inr (Or.inl rfl))) | exact Or.inr (Or.inr (Or.inr (Or.inr (Or.inl rfl)))) | exact Or.inr (Or.inr (Or.inr (Or.inr (Or.inr (Or.inl rfl))))) | exact Or.inr (Or.inr (Or.inr (Or.inr (Or.inr (Or.inr (Or.inl rfl)))))) | exact Or.inr (Or.inr (Or.inr (Or.inr (Or.inr (Or.inr (Or.inr (Or.inl rfl))))))) | exact Or.inr (Or.inr (Or.inr (Or.inr (Or.inr (Or.inr (Or.inr (Or.inr (Or.inl rfl))))))))); omega)
      | exact nn_getD hw _
      | (have hq : sin < _ := why5 hy; omega)
      | (have hq := why7 hy; simp only at hq; first | exact hq | exact toNat_lt' (nn_getD hw _) hq)
      | (have hq := why8 hy; simp only at hq; first | exact hq | exact toNat_lt' (nn_getD hw _) hq)
      | (simp only [whyP, rgs, Int.reduceEq, reduceIte] at hy
         split at hy <;> omega)
      | (have e3 : IntKind.i64.wrap ((stack.length : Int) - 1) = stack.length - 1 := wrap_id (by omega) (by omega)
         simp only [whyP, rgs, Int.reduceEq, reduceIte] at hy
         rw [e3]
         split at hy <;> omega)
      | (show (out.length + [_].length) * 8 ≤ _; simp; omega)
      | (show out.length + [_].length ≤ _; simp; omega)
      | (show (stack.length + [_].length) * 8 ≤ _; simp; omega)
      | (show stack.length + [_].length ≤ _; simp; omega)
      | (simp only [rowsS, avS, perfP, rgs, Int.reduceEq, reduceIte, *]; done)
      | (simp only [rowsS, avS, perfP, rgs, Int.reduceEq, reduceIte]; rfl)
      | (have e3 : IntKind.i64.wrap ((stack.length : Int) - 1) = stack.length - 1 := wrap_id (by omega) (by omega)
         have e4 : ((stack.length : Int) - 1).toNat = stack.length - 1 := by omega
         simp only [rowsS, avS, perfP, Int.reduceEq, reduceIte, e3, e4, hy])
      | skip
end Vg
