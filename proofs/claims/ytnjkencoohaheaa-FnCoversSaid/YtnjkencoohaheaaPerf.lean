/- The machine: what an instruction does. Condition: the state is one of the program's. -/
import Derived.Test.YtnjkencoohaheaaMach2
namespace Vg
open Go Go.Proofs

set_option maxHeartbeats 4000000 in
set_option maxRecDepth 100000 in
theorem i_perform (w mem inn : Int) (c : List V.Ins) (pc : Int) (regs cells stack : List Int) (sin : Int) (out : List Int) (code steps : Int) (op a b d : Int) (inp : List Int) (hi : insP ⟨op, a, b, d⟩ w c.length = true) (hr : regs.length = 4) (hm : (cells.length : Int) = mem) (hl : inp.length = inn) (hpc : 0 ≤ pc ∧ pc ≤ 40) (hsi : 0 ≤ sin ∧ sin ≤ inn) (hin : inn ≤ 3) (hso : out.length ≤ 6) (hst : stack.length ≤ 3) (hw : ∀ x ∈ regs, 0 ≤ x) (hy : whyP ⟨w, mem, inn, c⟩ ⟨pc, regs, cells, stack, sin, out, code, steps⟩ ⟨op, a, b, d⟩ = 0) : CallsG Try.prog 119 [.ptr 0 0, .agg [.dat (.i w), .dat (.i mem), .dat (.i inn), .dat (.seq .inss c)], .agg [.dat (.i op), .dat (.i a), .dat (.i b), .dat (.i d)], .dat (.seq .ints inp)] [.box [.dat (.i pc), .row 1, .row 2, .row 3, .dat (.i sin), .row 4, .dat (.i code), .dat (.i steps)], .row 3 .ints regs false, .row 3 .ints cells false, .row 3 .ints stack false, .row 3 .ints out false] 1 (fun res B => res = .tup [] ∧ B = boxS (perfP ⟨w, mem, inn, c⟩ ⟨pc, regs, cells, stack, sin, out, code, steps⟩ ⟨op, a, b, d⟩ inp)) := by
  refine CallsG.of_awp tauOk mixOk Try.func119 rfl rfl rfl ?_
  conv => whnf
  repeat' (first
    | ((with_reducible refine Alt.l ?_); conv => whnf)
    | ((with_reducible refine fun (K1 : AX → AState → Prop) hK => ?_); conv => whnf)
    | ((with_reducible show K1 _ _); subst hK; conv => whnf)
    | (with_reducible exact rfl)
    | ((with_reducible refine sp_T ?_); conv => whnf)
    | ((with_reducible refine sp_F ?_); conv => whnf)
    | ((with_reducible refine sp_T' ?_); conv => whnf)
    | ((with_reducible refine sp_F' ?_); conv => whnf)
    | ((with_reducible refine sp_dF ?_ ?_); decide; conv => whnf)
    | ((with_reducible refine sp_dT ?_ ?_); decide; conv => whnf)
    | ((with_reducible refine sp_d (fun h => ?_) (fun h => ?_)) <;> first | contradiction | (subst h; conv => whnf) | (conv => whnf))
    | ((with_reducible refine sp_d' (fun h => ?_) (fun h => ?_)) <;> first | contradiction | (subst h; conv => whnf) | (conv => whnf))
    | ((with_reducible refine sp_eF ?_ ?_); decide; conv => whnf)
    | ((with_reducible refine sp_eT ?_); conv => whnf)
    | ((with_reducible refine sp_e (fun h => ?_) (fun h => ?_)) <;> first | contradiction | (subst h; conv => whnf) | (conv => whnf))
    | ((with_reducible refine sp_e' (fun h => ?_) (fun h => ?_)) <;> first | contradiction | (subst h; conv => whnf) | (conv => whnf))
    | ((with_reducible refine sp_n (fun h => ?_) (fun h => ?_)) <;> first | contradiction | (subst h; conv => whnf) | (conv => whnf))
    | ((with_reducible refine sp_n' (fun h => ?_) (fun h => ?_)) <;> first | contradiction | (subst h; conv => whnf) | (conv => whnf))
    | ((with_reducible refine sp_nb (fun h => ?_) (fun h => ?_)) <;> first | contradiction | (conv => whnf))
    | ((with_reducible refine sp_nb' (fun h => ?_) (fun h => ?_)) <;> first | contradiction | (conv => whnf))
    | ((with_reducible refine sp_b (fun h => ?_) (fun h => ?_)) <;> first | contradiction | (conv => whnf))
    | ((with_reducible refine sp_b' (fun h => ?_) (fun h => ?_)) <;> first | contradiction | (conv => whnf))
    | (refine ⟨(rfl : nodupB _ = true), rfl, ?_⟩; conv => whnf)
    | (with_reducible refine bnd2 ?_ ?_)
    | (with_reducible refine bnd2' ?_ ?_)
    | (with_reducible refine bndN ?_ ?_)
    | ((with_reducible refine and_of ?_ ?_); conv => whnf)
    | ((with_reducible refine pcI (g := 133) ?_); refine ⟨_, i_ApplyBinary .., rfl, ?_⟩; rotate_right; conv => whnf)
    | ((with_reducible show Exists _); refine Exists.intro _ (And.intro (i_ApplyBinary ..) (And.intro rfl ?_)); rotate_right; conv => whnf)
    | ((with_reducible refine pcI (g := 134) ?_); refine ⟨_, i_ApplyUnary .., rfl, ?_⟩; rotate_right; conv => whnf)
    | ((with_reducible show Exists _); refine Exists.intro _ (And.intro (i_ApplyUnary ..) (And.intro rfl ?_)); rotate_right; conv => whnf)
    | ((with_reducible show awpOps _ _ _ _ _ _); conv => whnf)
    | (intro h; conv => whnf))
  all_goals (repeat (clear hK; clear K1))
  all_goals
    have e1 : IntKind.i64.wrap (pc + 1) = pc + 1 := wrap_id (by omega) (by omega)
    have e2 : IntKind.i64.wrap (sin + 1) = sin + 1 := wrap_id (by omega) (by omega)
    have hm' : maxLen = 9223372036854775807 := rfl
    first
      | rfl
      | (obtain ⟨q1, q2⟩ := ins_a hi (Or.inl rfl); omega)
      | (obtain ⟨q1, q2⟩ := ins_a hi (Or.inr (Or.inl rfl)); omega)
      | (obtain ⟨q1, q2⟩ := ins_a hi (Or.inr (Or.inr (Or.inl rfl))); omega)
      | (obtain ⟨q1, q2⟩ := ins_a hi (Or.inr (Or.inr (Or.inr (Or.inl rfl)))); omega)
      | (obtain ⟨q1, q2⟩ := ins_a hi (Or.inr (Or.inr (Or.inr (Or.inr (Or.inl rfl))))); omega)
      | (obtain ⟨q1, q2⟩ := ins_a hi (Or.inr (Or.inr (Or.inr (Or.inr (Or.inr (Or.inl rfl)))))); omega)
      | (obtain ⟨q1, q2⟩ := ins_a hi (Or.inr (Or.inr (Or.inr (Or.inr (Or.inr (Or.inr (Or.inl rfl))))))); omega)
      | (obtain ⟨q1, q2⟩ := ins_a hi (Or.inr (Or.inr (Or.inr (Or.inr (Or.inr (Or.inr (Or.inr (Or.inl rfl)))))))); omega)
      | (obtain ⟨q1, q2⟩ := ins_a hi (Or.inr (Or.inr (Or.inr (Or.inr (Or.inr (Or.inr (Or.inr (Or.inr (Or.inl rfl))))))))); omega)
      | (obtain ⟨q1, q2⟩ := ins_a hi (Or.inr (Or.inr (Or.inr (Or.inr (Or.inr (Or.inr (Or.inr (Or.inr (Or.inr (rfl)))))))))); omega)
      | (obtain ⟨q1, q2⟩ := ins_b hi (Or.inl rfl); omega)
      | (obtain ⟨q1, q2⟩ := ins_b hi (Or.inr (Or.inl rfl)); omega)
      | (obtain ⟨q1, q2⟩ := ins_b hi (Or.inr (Or.inr (Or.inl rfl))); omega)
      | (obtain ⟨q1, q2⟩ := ins_b hi (Or.inr (Or.inr (Or.inr rfl))); omega)
      | exact nn_getD hw _
      | (have hq : sin < inn := why5 hy; omega)
      | (have hq := why7 hy; rw [← hm] at hq; first | exact hq | exact toNat_lt' (nn_getD hw _) hq)
      | (have hq := why8 hy; rw [← hm] at hq; first | exact hq | exact toNat_lt' (nn_getD hw _) hq)
      | omega
      | (have n1 := nn_getD hw a
         have n2 := nn_getD hw b
         simp only [whyP, rgs, Int.reduceEq, reduceIte] at hy
         split at hy <;> omega)
      | (have e3 : IntKind.i64.wrap ((stack.length : Int) - 1) = stack.length - 1 := wrap_id (by omega) (by omega)
         simp only [whyP, rgs, Int.reduceEq, reduceIte] at hy
         rw [e3]
         split at hy <;> omega)
      | (show (out.length + [_].length) * 8 ≤ _; simp; omega)
      | (show out.length + [_].length ≤ _; simp; omega)
      | (show (stack.length + [_].length) * 8 ≤ _; simp; omega)
      | (show stack.length + [_].length ≤ _; simp; omega)
      | (simp only [boxS, perfP, rgs, Int.reduceEq, reduceIte, *]; done)
      | (simp only [boxS, perfP, rgs, Int.reduceEq, reduceIte]; rfl)
      | (have e3 : IntKind.i64.wrap ((stack.length : Int) - 1) = stack.length - 1 := wrap_id (by omega) (by omega)
         have e4 : ((stack.length : Int) - 1).toNat = stack.length - 1 := by omega
         simp only [boxS, perfP, Int.reduceEq, reduceIte, e3, e4])
      | skip
end Vg
