/- The machine: contracts of the functions that step. Condition: the state is one of the program's. -/
import Derived.Test.YtnjkencoohaheaaMLaw
namespace Vg
open Go Go.Proofs

set_option maxRecDepth 100000 in
theorem i_moves (pc : Int) (regs cells stack : List Int) (sin : Int) (out : List Int) (code steps : Int) : CallsG Try.prog 77 [.ptr 0 0] [.box [.dat (.i pc), .row 1, .row 2, .row 3, .dat (.i sin), .row 4, .dat (.i code), .dat (.i steps)], .row 3 .ints regs false, .row 3 .ints cells false, .row 3 .ints stack false, .row 3 .ints out false] 5 (fun res B => res = .dat (.bool (decide (code = 0) && decide (steps < 400))) ∧ B = [.box [.dat (.i pc), .row 1, .row 2, .row 3, .dat (.i sin), .row 4, .dat (.i code), .dat (.i steps)], .row 3 .ints regs false, .row 3 .ints cells false, .row 3 .ints stack false, .row 3 .ints out false]) := by
  refine CallsG.of_awp tauOk mixOk Try.func77 rfl rfl rfl ?_
  conv => whnf
  repeat' (first
    | ((with_reducible refine Alt.l ?_); conv => whnf)
    | ((with_reducible refine fun (K1 : AX → AState → Prop) hK => ?_); conv => whnf)
    | ((with_reducible show K1 _ _); subst hK; conv => whnf)
    | (with_reducible exact rfl)
    | ((with_reducible refine sp_T ?_); conv => whnf)
    | ((with_reducible refine sp_F ?_); conv => whnf)
    | ((with_reducible refine sp_T' ?_); conv => whnf)
    | ((with_reducible refine sp_F' ?_); conv => whnf)
    | ((with_reducible refine sp_dF ?_ ?_); decide; conv => whnf)
    | ((with_reducible refine sp_dT ?_ ?_); decide; conv => whnf)
    | ((with_reducible refine sp_d (fun h => ?_) (fun h => ?_)) <;> first | contradiction | (subst h; conv => whnf) | (conv => whnf))
    | ((with_reducible refine sp_d' (fun h => ?_) (fun h => ?_)) <;> first | contradiction | (subst h; conv => whnf) | (conv => whnf))
    | ((with_reducible refine sp_eF ?_ ?_); decide; conv => whnf)
    | ((with_reducible refine sp_eT ?_); conv => whnf)
    | ((with_reducible refine sp_e (fun h => ?_) (fun h => ?_)) <;> first | contradiction | (subst h; conv => whnf) | (conv => whnf))
    | ((with_reducible refine sp_e' (fun h => ?_) (fun h => ?_)) <;> first | contradiction | (subst h; conv => whnf) | (conv => whnf))
    | ((with_reducible refine sp_n (fun h => ?_) (fun h => ?_)) <;> first | contradiction | (subst h; conv => whnf) | (conv => whnf))
    | ((with_reducible refine sp_n' (fun h => ?_) (fun h => ?_)) <;> first | contradiction | (subst h; conv => whnf) | (conv => whnf))
    | ((with_reducible refine sp_nb (fun h => ?_) (fun h => ?_)) <;> first | contradiction | (conv => whnf))
    | ((with_reducible refine sp_nb' (fun h => ?_) (fun h => ?_)) <;> first | contradiction | (conv => whnf))
    | ((with_reducible refine sp_b (fun h => ?_) (fun h => ?_)) <;> first | contradiction | (conv => whnf))
    | ((with_reducible refine sp_b' (fun h => ?_) (fun h => ?_)) <;> first | contradiction | (conv => whnf))
    | (refine ⟨(rfl : nodupB _ = true), rfl, ?_⟩; conv => whnf)
    | (with_reducible refine bnd2 ?_ ?_)
    | (with_reducible refine bnd2' ?_ ?_)
    | (with_reducible refine bndN ?_ ?_)
    | ((with_reducible refine and_of ?_ ?_); conv => whnf)
    | ((with_reducible show awpOps _ _ _ _ _ _); conv => whnf)
    | (intro h; conv => whnf))
  all_goals (repeat (clear hK; clear K1))
  all_goals first | rfl | (simp [*]; done) | trace_state
set_option maxHeartbeats 4000000 in
set_option maxRecDepth 100000 in
theorem i_trouble (w mem inn : Int) (c : List V.Ins) (pc : Int) (regs cells stack : List Int) (sin : Int) (out : List Int) (code steps : Int) (op a b d : Int) (inp : List Int) (hi : insP ⟨op, a, b, d⟩ w c.length = true) (hr : regs.length = 4) (hl : inp.length = inn) : CallsG Try.prog 118 [.ptr 0 0, .agg [.dat (.i w), .dat (.i mem), .dat (.i inn), .dat (.seq .inss c)], .agg [.dat (.i op), .dat (.i a), .dat (.i b), .dat (.i d)], .dat (.seq .ints inp)] [.box [.dat (.i pc), .row 1, .row 2, .row 3, .dat (.i sin), .row 4, .dat (.i code), .dat (.i steps)], .row 3 .ints regs false, .row 3 .ints cells false, .row 3 .ints stack false, .row 3 .ints out false] 5 (fun res B => res = .dat (.i (whyP ⟨w, mem, inn, c⟩ ⟨pc, regs, cells, stack, sin, out, code, steps⟩ ⟨op, a, b, d⟩)) ∧ B = [.box [.dat (.i pc), .row 1, .row 2, .row 3, .dat (.i sin), .row 4, .dat (.i code), .dat (.i steps)], .row 3 .ints regs false, .row 3 .ints cells false, .row 3 .ints stack false, .row 3 .ints out false]) := by
  refine CallsG.of_awp tauOk mixOk Try.func118 rfl rfl rfl ?_
  conv => whnf
  repeat' (first
    | ((with_reducible refine Alt.l ?_); conv => whnf)
    | ((with_reducible refine fun (K1 : AX → AState → Prop) hK => ?_); conv => whnf)
    | ((with_reducible show K1 _ _); subst hK; conv => whnf)
    | (with_reducible exact rfl)
    | ((with_reducible refine sp_T ?_); conv => whnf)
    | ((with_reducible refine sp_F ?_); conv => whnf)
    | ((with_reducible refine sp_T' ?_); conv => whnf)
    | ((with_reducible refine sp_F' ?_); conv => whnf)
    | ((with_reducible refine sp_dF ?_ ?_); decide; conv => whnf)
    | ((with_reducible refine sp_dT ?_ ?_); decide; conv => whnf)
    | ((with_reducible refine sp_d (fun h => ?_) (fun h => ?_)) <;> first | contradiction | (subst h; conv => whnf) | (conv => whnf))
    | ((with_reducible refine sp_d' (fun h => ?_) (fun h => ?_)) <;> first | contradiction | (subst h; conv => whnf) | (conv => whnf))
    | ((with_reducible refine sp_eF ?_ ?_); decide; conv => whnf)
    | ((with_reducible refine sp_eT ?_); conv => whnf)
    | ((with_reducible refine sp_e (fun h => ?_) (fun h => ?_)) <;> first | contradiction | (subst h; conv => whnf) | (conv => whnf))
    | ((with_reducible refine sp_e' (fun h => ?_) (fun h => ?_)) <;> first | contradiction | (subst h; conv => whnf) | (conv => whnf))
    | ((with_reducible refine sp_n (fun h => ?_) (fun h => ?_)) <;> first | contradiction | (subst h; conv => whnf) | (conv => whnf))
    | ((with_reducible refine sp_n' (fun h => ?_) (fun h => ?_)) <;> first | contradiction | (subst h; conv => whnf) | (conv => whnf))
    | ((with_reducible refine sp_nb (fun h => ?_) (fun h => ?_)) <;> first | contradiction | (conv => whnf))
    | ((with_reducible refine sp_nb' (fun h => ?_) (fun h => ?_)) <;> first | contradiction | (conv => whnf))
    | ((with_reducible refine sp_b (fun h => ?_) (fun h => ?_)) <;> first | contradiction | (conv => whnf))
    | ((with_reducible refine sp_b' (fun h => ?_) (fun h => ?_)) <;> first | contradiction | (conv => whnf))
    | (refine ⟨(rfl : nodupB _ = true), rfl, ?_⟩; conv => whnf)
    | (with_reducible refine bnd2 ?_ ?_)
    | (with_reducible refine bnd2' ?_ ?_)
    | (with_reducible refine bndN ?_ ?_)
    | ((with_reducible refine and_of ?_ ?_); conv => whnf)
    | ((with_reducible show awpOps _ _ _ _ _ _); conv => whnf)
    | (intro h; conv => whnf))
  all_goals (repeat (clear hK; clear K1))
  all_goals first
    | rfl
    | (have := ins_b hi (by simp); omega)
    | (have := ins_a hi (by simp); omega)
    | (refine congrArg (fun x => AV.dat (Dat.i x)) ?_
       simp only [whyP, rgs, Int.reduceEq, reduceIte]
       first
         | omega
         | (split <;> omega))
    | (simp [whyP, *]; done)
    | (refine congrArg (fun x => AV.dat (Dat.i x)) ?_
       simp [whyP]
       exact h)
set_option maxHeartbeats 4000000 in
set_option maxRecDepth 100000 in
theorem s_l05Why (w mem inn : Int) (c : List V.Ins) (pc : Int) (regs cells stack : List Int) (sin : Int) (out : List Int) (code steps : Int) (op a b d : Int) (hi : insP ⟨op, a, b, d⟩ w c.length = true) (hr : regs.length = 4) (hsi : 0 ≤ sin ∧ sin ≤ inn) (hso : out.length ≤ 6) (hst : stack.length ≤ 3) : CallsV Try.prog 112 [.agg [.dat (.i w), .dat (.i mem), .dat (.i inn), .dat (.seq .inss c)], .agg [.dat (.i pc), .dat (.seq .ints regs), .dat (.seq .ints cells), .dat (.seq .ints stack), .dat (.i sin), .dat (.seq .ints out), .dat (.i code), .dat (.i steps)], .agg [.dat (.i op), .dat (.i a), .dat (.i b), .dat (.i d)]] (.dat (.i (if op = 14 then 1 else whyP ⟨w, mem, inn, c⟩ ⟨pc, regs, cells, stack, sin, out, code, steps⟩ ⟨op, a, b, d⟩))) := by
  refine CallsV.of_awp tauOk mixOk Try.func112 rfl rfl rfl ?_
  conv => whnf
  repeat' (first
    | ((with_reducible refine Alt.l ?_); conv => whnf)
    | ((with_reducible refine fun (K1 : AX → AState → Prop) hK => ?_); conv => whnf)
    | ((with_reducible show K1 _ _); subst hK; conv => whnf)
    | (with_reducible exact rfl)
    | ((with_reducible refine sp_T ?_); conv => whnf)
    | ((with_reducible refine sp_F ?_); conv => whnf)
    | ((with_reducible refine sp_T' ?_); conv => whnf)
    | ((with_reducible refine sp_F' ?_); conv => whnf)
    | ((with_reducible refine sp_dF ?_ ?_); decide; conv => whnf)
    | ((with_reducible refine sp_dT ?_ ?_); decide; conv => whnf)
    | ((with_reducible refine sp_d (fun h => ?_) (fun h => ?_)) <;> first | contradiction | (subst h; conv => whnf) | (conv => whnf))
    | ((with_reducible refine sp_d' (fun h => ?_) (fun h => ?_)) <;> first | contradiction | (subst h; conv => whnf) | (conv => whnf))
    | ((with_reducible refine sp_eF ?_ ?_); decide; conv => whnf)
    | ((with_reducible refine sp_eT ?_); conv => whnf)
    | ((with_reducible refine sp_e (fun h => ?_) (fun h => ?_)) <;> first | contradiction | (subst h; conv => whnf) | (conv => whnf))
    | ((with_reducible refine sp_e' (fun h => ?_) (fun h => ?_)) <;> first | contradiction | (subst h; conv => whnf) | (conv => whnf))
    | ((with_reducible refine sp_n (fun h => ?_) (fun h => ?_)) <;> first | contradiction | (subst h; conv => whnf) | (conv => whnf))
    | ((with_reducible refine sp_n' (fun h => ?_) (fun h => ?_)) <;> first | contradiction | (subst h; conv => whnf) | (conv => whnf))
    | ((with_reducible refine sp_nb (fun h => ?_) (fun h => ?_)) <;> first | contradiction | (conv => whnf))
    | ((with_reducible refine sp_nb' (fun h => ?_) (fun h => ?_)) <;> first | contradiction | (conv => whnf))
    | ((with_reducible refine sp_b (fun h => ?_) (fun h => ?_)) <;> first | contradiction | (conv => whnf))
    | ((with_reducible refine sp_b' (fun h => ?_) (fun h => ?_)) <;> first | contradiction | (conv => whnf))
    | (refine ⟨(rfl : nodupB _ = true), rfl, ?_⟩; conv => whnf)
    | (with_reducible refine bnd2 ?_ ?_)
    | (with_reducible refine bnd2' ?_ ?_)
    | (with_reducible refine bndN ?_ ?_)
    | ((with_reducible refine and_of ?_ ?_); conv => whnf)
    | ((with_reducible show awpOps _ _ _ _ _ _); conv => whnf)
    | (intro h; conv => whnf))
  all_goals (repeat (clear hK; clear K1))
  all_goals first
    | rfl
    | (have := ins_b hi (by simp); omega)
    | (have := ins_a hi (by simp); omega)
    | (refine congrArg Dat.i ?_
       simp only [whyP, rgs, Int.reduceEq, reduceIte]
       first
         | omega
         | (split <;> omega))
    | (simp [whyP, *]; done)
    | (refine congrArg Dat.i ?_
       simp [whyP]
       exact h)
end Vg
