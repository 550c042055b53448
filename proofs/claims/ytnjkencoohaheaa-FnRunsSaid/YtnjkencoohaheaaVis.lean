/- A copy of a state by the reference: contract. Condition: lists are not long. -/
import Derived.Test.YtnjkencoohaheaaRuns
import Derived.Test.YtnjkencoohaheaaStat
namespace Vg
open Go Go.Proofs
set_option maxHeartbeats 16000000 in
set_option maxRecDepth 100000 in
theorem s_l05Copy (pc : Int) (rg mm sk : List Int) (ic : Int) (ot : List Int) (cd sp : Int) (h1 : rg.length ≤ 1048576) (h2 : mm.length ≤ 1048576) (h3 : sk.length ≤ 1048576) (h4 : ot.length ≤ 1048576) : CallsF Try.prog 79 [.agg [.dat (.i pc), .dat (.seq .ints rg), .dat (.seq .ints mm), .dat (.seq .ints sk), .dat (.i ic), .dat (.seq .ints ot), .dat (.i cd), .dat (.i sp)]] true (fun res B => res = .agg [.dat (.i pc), .row 0, .row 1, .row 2, .dat (.i ic), .row 3, .dat (.i cd), .dat (.i sp)] ∧ B = [.row 3 .ints rg false, .row 3 .ints mm false, .row 3 .ints sk false, .row 3 .ints ot false]) := by
  refine CallsF.of_awp tauOk mixOk Try.func79 rfl rfl rfl ?_
  conv => whnf
  repeat' (first
    | ((with_reducible refine Alt.l ?_); conv => whnf)
    | ((with_reducible refine fun (K1 : AX → AState → Prop) hK => ?_); conv => whnf)
    | ((with_reducible show K1 _ _); subst hK; conv => whnf)
    | (with_reducible exact rfl)
    | ((with_reducible refine sp_T ?_); conv => whnf)
    | ((with_reducible refine sp_F ?_); conv => whnf)
    | ((with_reducible refine sp_T' ?_); conv => whnf)
    | ((with_reducible refine sp_F' ?_); conv => whnf)
    | ((with_reducible refine sp_dF ?_ ?_); decide; conv => whnf)
    | ((with_reducible refine sp_dT ?_ ?_); decide; conv => whnf)
    | ((with_reducible refine sp_d (fun h => ?_) (fun h => ?_)) <;> first | contradiction | (subst h; conv => whnf) | (conv => whnf))
    | ((with_reducible refine sp_d' (fun h => ?_) (fun h => ?_)) <;> first | contradiction | (subst h; conv => whnf) | (conv => whnf))
    | ((with_reducible refine sp_eF ?_ ?_); decide; conv => whnf)
    | ((with_reducible refine sp_eT ?_); conv => whnf)
    | ((with_reducible refine sp_e (fun h => ?_) (fun h => ?_)) <;> first | contradiction | (subst h; conv => whnf) | (conv => whnf))
    | ((with_reducible refine sp_e' (fun h => ?_) (fun h => ?_)) <;> first | contradiction | (subst h; conv => whnf) | (conv => whnf))
    | ((with_reducible refine sp_n (fun h => ?_) (fun h => ?_)) <;> first | contradiction | (subst h; conv => whnf) | (conv => whnf))
    | ((with_reducible refine sp_n' (fun h => ?_) (fun h => ?_)) <;> first | contradiction | (subst h; conv => whnf) | (conv => whnf))
    | ((with_reducible refine sp_nb (fun h => ?_) (fun h => ?_)) <;> first | contradiction | (exact Bool.noConfusion (Eq.trans (Eq.symm h) (show _ = true by assumption))) | (exact Bool.noConfusion (Eq.trans (Eq.symm (show _ = false by assumption)) h)) | (conv => whnf))
    | ((with_reducible refine sp_nb' (fun h => ?_) (fun h => ?_)) <;> first | contradiction | (exact Bool.noConfusion (Eq.trans (Eq.symm h) (show _ = true by assumption))) | (exact Bool.noConfusion (Eq.trans (Eq.symm (show _ = false by assumption)) h)) | (conv => whnf))
    | ((with_reducible refine sp_b (fun h => ?_) (fun h => ?_)) <;> first | contradiction | (exact Bool.noConfusion (Eq.trans (Eq.symm h) (show _ = true by assumption))) | (exact Bool.noConfusion (Eq.trans (Eq.symm (show _ = false by assumption)) h)) | (conv => whnf))
    | ((with_reducible refine sp_b' (fun h => ?_) (fun h => ?_)) <;> first | contradiction | (exact Bool.noConfusion (Eq.trans (Eq.symm h) (show _ = true by assumption))) | (exact Bool.noConfusion (Eq.trans (Eq.symm (show _ = false by assumption)) h)) | (conv => whnf))
    | (refine ⟨(rfl : nodupB _ = true), rfl, ?_⟩; conv => whnf)
    | (with_reducible refine bnd2 ?_ ?_)
    | (with_reducible refine bnd2' ?_ ?_)
    | (with_reducible refine bndN ?_ ?_)
    | ((with_reducible refine and_of ?_ ?_); conv => whnf)
    | ((with_reducible show awpOps _ _ _ _ _ _); conv => whnf)
    | (intro h; conv => whnf))
  all_goals (repeat (clear hK; clear K1))
  all_goals first | (with_reducible assumption) | rfl | trivial | (have hm : maxLen = 9223372036854775807 := rfl; simp; omega) | (show (_ + _) * 8 ≤ _; simp; omega) | skip
end Vg

namespace Vg
open Go Go.Proofs
theorem nilRowC {P : Program} {f : FuncId} {args : List AV} {T : Nat} {κ : K} {l : List κ.T} (h : CallsF P f args true fun res B => (res = .nils ∧ B = [] ∧ l.length = 0) ∨ (res = .row 0 ∧ B = [.row T κ l false])) :
    CallsF P f args true fun res B => res = .row 0 ∧ B = [.row T κ l false] := by
  refine ⟨h.1, fun w Im vs h1 h2 h3 => ?_⟩
  refine (h.2 w Im vs h1 h2 h3).mono fun e w' he => ?_
  obtain ⟨v, res, B', ρ', Im', rfl, hR, hv, hE, hX⟩ := he
  rcases hR with ⟨rfl, rfl, hl⟩ | ⟨rfl, rfl⟩
  · obtain rfl := nils_val hv
    refine ⟨_, .row 0, [.row T κ l false], fun _ => none, Im', rfl, ⟨rfl, rfl⟩, .rowN 0 rfl, ⟨fun i b hi => ?_, fun i j r s x _ _ hr => (by cases hr), fun i r _ hr => (by cases hr), fun i r x _ hr => (by cases hr), fun i r x o _ hr => (by cases hr), hE.imlt, fun i b r o _ hr => (by cases hr)⟩,
      ⟨fun i r x _ hr => (by cases hr), hX.im0, hX.imNew, hX.keep, hX.frame, hX.grow, hX.os, hX.tape, hX.output, fun i p hp => (by cases hp)⟩⟩
    cases i with
    | zero => cases hi; exact hl
    | succ i => cases hi
  · exact ⟨_, _, _, ρ', Im', rfl, ⟨rfl, rfl⟩, hv, hE, hX⟩
set_option maxRecDepth 100000 in
theorem i_CloneD (c : List Int) (h1 : c.length ≤ 1048576) : CallsF Try.prog 117 [.dat (.seq .ints c)] true (fun res B => (res = .nils ∧ B = [] ∧ c.length = 0) ∨ (res = .row 0 ∧ B = [.row 3 .ints c false])) := by
  refine CallsF.of_awp tauOk mixOk Try.func117 rfl rfl rfl ?_
  conv => whnf
  repeat' (first
    | ((with_reducible refine Alt.l ?_); conv => whnf)
    | ((with_reducible refine fun (K1 : AX → AState → Prop) hK => ?_); conv => whnf)
    | ((with_reducible show K1 _ _); subst hK; conv => whnf)
    | (with_reducible exact rfl)
    | ((with_reducible refine sp_T ?_); conv => whnf)
    | ((with_reducible refine sp_F ?_); conv => whnf)
    | ((with_reducible refine sp_T' ?_); conv => whnf)
    | ((with_reducible refine sp_F' ?_); conv => whnf)
    | ((with_reducible refine sp_dF ?_ ?_); decide; conv => whnf)
    | ((with_reducible refine sp_dT ?_ ?_); decide; conv => whnf)
    | ((with_reducible refine sp_d (fun h => ?_) (fun h => ?_)) <;> first | contradiction | (subst h; conv => whnf) | (conv => whnf))
    | ((with_reducible refine sp_d' (fun h => ?_) (fun h => ?_)) <;> first | contradiction | (subst h; conv => whnf) | (conv => whnf))
    | ((with_reducible refine sp_eF ?_ ?_); decide; conv => whnf)
    | ((with_reducible refine sp_eT ?_); conv => whnf)
    | ((with_reducible refine sp_e (fun h => ?_) (fun h => ?_)) <;> first | contradiction | (subst h; conv => whnf) | (conv => whnf))
    | ((with_reducible refine sp_e' (fun h => ?_) (fun h => ?_)) <;> first | contradiction | (subst h; conv => whnf) | (conv => whnf))
    | ((with_reducible refine sp_n (fun h => ?_) (fun h => ?_)) <;> first | contradiction | (subst h; conv => whnf) | (conv => whnf))
    | ((with_reducible refine sp_n' (fun h => ?_) (fun h => ?_)) <;> first | contradiction | (subst h; conv => whnf) | (conv => whnf))
    | ((with_reducible refine sp_nb (fun h => ?_) (fun h => ?_)) <;> first | (exact Bool.noConfusion (Eq.trans (Eq.symm h) (show _ = true by with_reducible assumption))) | (exact Bool.noConfusion (Eq.trans (Eq.symm (show _ = false by with_reducible assumption)) h)) | (conv => whnf))
    | ((with_reducible refine sp_nb' (fun h => ?_) (fun h => ?_)) <;> first | (exact Bool.noConfusion (Eq.trans (Eq.symm h) (show _ = true by with_reducible assumption))) | (exact Bool.noConfusion (Eq.trans (Eq.symm (show _ = false by with_reducible assumption)) h)) | (conv => whnf))
    | ((with_reducible refine sp_b (fun h => ?_) (fun h => ?_)) <;> first | (exact Bool.noConfusion (Eq.trans (Eq.symm h) (show _ = true by with_reducible assumption))) | (exact Bool.noConfusion (Eq.trans (Eq.symm (show _ = false by with_reducible assumption)) h)) | (conv => whnf))
    | ((with_reducible refine sp_b' (fun h => ?_) (fun h => ?_)) <;> first | (exact Bool.noConfusion (Eq.trans (Eq.symm h) (show _ = true by with_reducible assumption))) | (exact Bool.noConfusion (Eq.trans (Eq.symm (show _ = false by with_reducible assumption)) h)) | (conv => whnf))
    | (refine ⟨(rfl : nodupB _ = true), rfl, ?_⟩; conv => whnf)
    | (with_reducible refine bnd2 ?_ ?_)
    | (with_reducible refine bnd2' ?_ ?_)
    | (with_reducible refine bndN ?_ ?_)
    | ((with_reducible refine and_of ?_ ?_); conv => whnf)
    | ((with_reducible show awpOps _ _ _ _ _ _); conv => whnf)
    | (intro h; conv => whnf))
  all_goals (repeat (clear hK; clear K1))
  all_goals first | exact .inl ⟨rfl, rfl, by simp_all⟩ | exact .inl ⟨rfl, rfl, by assumption⟩ | exact .inr ⟨rfl, rfl⟩ | (have hm : maxLen = 9223372036854775807 := rfl; simp; omega) | (show (_ + c.length) * 8 ≤ _; simp; omega) | skip
theorem i_Clone (c : List Int) (h1 : c.length ≤ 1048576) : CallsF Try.prog 117 [.dat (.seq .ints c)] true (fun res B => res = .row 0 ∧ B = [.row 3 .ints c false]) := nilRowC (i_CloneD c h1)
set_option maxRecDepth 100000 in
theorem i_copyState (pc : Int) (rg mm sk : List Int) (ic : Int) (ot : List Int) (cd sp : Int) (h1 : rg.length ≤ 1048576) (h2 : mm.length ≤ 1048576) (h3 : sk.length ≤ 1048576) (h4 : ot.length ≤ 1048576) : CallsF Try.prog 76 [.agg [.dat (.i pc), .dat (.seq .ints rg), .dat (.seq .ints mm), .dat (.seq .ints sk), .dat (.i ic), .dat (.seq .ints ot), .dat (.i cd), .dat (.i sp)]] true (fun res B => res = .agg [.dat (.i pc), .row 0, .row 1, .row 2, .dat (.i ic), .row 3, .dat (.i cd), .dat (.i sp)] ∧ B = [.row 3 .ints rg false, .row 3 .ints mm false, .row 3 .ints sk false, .row 3 .ints ot false]) := by
  refine CallsF.of_awp tauOk mixOk Try.func76 rfl rfl rfl ?_
  conv => whnf
  repeat' (first
    | ((with_reducible refine Alt.l ?_); conv => whnf)
    | ((with_reducible refine fun (K1 : AX → AState → Prop) hK => ?_); conv => whnf)
    | ((with_reducible show K1 _ _); subst hK; conv => whnf)
    | (with_reducible exact rfl)
    | ((with_reducible refine sp_T ?_); conv => whnf)
    | ((with_reducible refine sp_F ?_); conv => whnf)
    | ((with_reducible refine sp_T' ?_); conv => whnf)
    | ((with_reducible refine sp_F' ?_); conv => whnf)
    | ((with_reducible refine sp_dF ?_ ?_); decide; conv => whnf)
    | ((with_reducible refine sp_dT ?_ ?_); decide; conv => whnf)
    | ((with_reducible refine sp_d (fun h => ?_) (fun h => ?_)) <;> first | contradiction | (subst h; conv => whnf) | (conv => whnf))
    | ((with_reducible refine sp_d' (fun h => ?_) (fun h => ?_)) <;> first | contradiction | (subst h; conv => whnf) | (conv => whnf))
    | ((with_reducible refine sp_eF ?_ ?_); decide; conv => whnf)
    | ((with_reducible refine sp_eT ?_); conv => whnf)
    | ((with_reducible refine sp_e (fun h => ?_) (fun h => ?_)) <;> first | contradiction | (subst h; conv => whnf) | (conv => whnf))
    | ((with_reducible refine sp_e' (fun h => ?_) (fun h => ?_)) <;> first | contradiction | (subst h; conv => whnf) | (conv => whnf))
    | ((with_reducible refine sp_n (fun h => ?_) (fun h => ?_)) <;> first | contradiction | (subst h; conv => whnf) | (conv => whnf))
    | ((with_reducible refine sp_n' (fun h => ?_) (fun h => ?_)) <;> first | contradiction | (subst h; conv => whnf) | (conv => whnf))
    | ((with_reducible refine sp_nb (fun h => ?_) (fun h => ?_)) <;> first | (exact Bool.noConfusion (Eq.trans (Eq.symm h) (show _ = true by with_reducible assumption))) | (exact Bool.noConfusion (Eq.trans (Eq.symm (show _ = false by with_reducible assumption)) h)) | (conv => whnf))
    | ((with_reducible refine sp_nb' (fun h => ?_) (fun h => ?_)) <;> first | (exact Bool.noConfusion (Eq.trans (Eq.symm h) (show _ = true by with_reducible assumption))) | (exact Bool.noConfusion (Eq.trans (Eq.symm (show _ = false by with_reducible assumption)) h)) | (conv => whnf))
    | ((with_reducible refine sp_b (fun h => ?_) (fun h => ?_)) <;> first | (exact Bool.noConfusion (Eq.trans (Eq.symm h) (show _ = true by with_reducible assumption))) | (exact Bool.noConfusion (Eq.trans (Eq.symm (show _ = false by with_reducible assumption)) h)) | (conv => whnf))
    | ((with_reducible refine sp_b' (fun h => ?_) (fun h => ?_)) <;> first | (exact Bool.noConfusion (Eq.trans (Eq.symm h) (show _ = true by with_reducible assumption))) | (exact Bool.noConfusion (Eq.trans (Eq.symm (show _ = false by with_reducible assumption)) h)) | (conv => whnf))
    | (refine ⟨(rfl : nodupB _ = true), rfl, ?_⟩; conv => whnf)
    | (with_reducible refine bnd2 ?_ ?_)
    | (with_reducible refine bnd2' ?_ ?_)
    | (with_reducible refine bndN ?_ ?_)
    | ((with_reducible refine and_of ?_ ?_); conv => whnf)
    | ((with_reducible refine fcI (g := 117) ?_); refine ⟨_, _, i_Clone (h1 := ?_) .., rfl, fun res B hRB => ?_⟩; rotate_right; obtain ⟨rfl, rfl⟩ := hRB; conv => whnf)
    | ((with_reducible show awpOps _ _ _ _ _ _); conv => whnf)
    | (intro h; conv => whnf))
  all_goals (repeat (clear hK; clear K1))
  all_goals first | (with_reducible assumption) | rfl | trivial | skip
def movB (s : V.State) : Bool := decide (s.code = 0) && decide (s.steps < 400)
def aliveB (p : V.Prog) (inp : List Int) : Nat → Bool
  | 0 => true
  | k + 1 => aliveB p inp k && movB (runM p inp k)
def visTo (p : V.Prog) (inp : List Int) (pc : Int) : Nat → List V.State
  | 0 => []
  | k + 1 => visTo p inp pc k ++ (if aliveB p inp k = true ∧ (runM p inp k).pc = pc ∧ (runM p inp k).code = 0 then [runM p inp k] else [])
theorem vis_yes {p : V.Prog} {inp : List Int} {pc : Int} {k : Nat} (ha : aliveB p inp k = true) (h1 : (runM p inp k).pc = pc) (h2 : (runM p inp k).code = 0) : visTo p inp pc (k + 1) = visTo p inp pc k ++ [runM p inp k] := by
  simp only [visTo, ha, h1, h2, and_self, if_true]
theorem vis_no {p : V.Prog} {inp : List Int} {pc : Int} {k : Nat} (h : ¬ ((runM p inp k).pc = pc ∧ (runM p inp k).code = 0)) : visTo p inp pc (k + 1) = visTo p inp pc k := by
  simp only [visTo]; rw [if_neg (fun x => h x.2), List.append_nil]
theorem vis_dead {p : V.Prog} {inp : List Int} {pc : Int} {k m : Nat} (h : aliveB p inp k = false) (hm : k ≤ m) : visTo p inp pc m = visTo p inp pc k ∧ aliveB p inp m = false := by
  obtain ⟨d, rfl⟩ : ∃ d, m = k + d := ⟨m - k, by omega⟩
  clear hm
  induction d with
  | zero => exact ⟨rfl, h⟩
  | succ d ih =>
    refine ⟨?_, ?_⟩
    · show visTo p inp pc (k + d + 1) = _
      simp only [visTo]; rw [if_neg (fun x => by rw [ih.2] at x; exact Bool.noConfusion x.1), List.append_nil]; exact ih.1
    · show aliveB p inp (k + d + 1) = false
      simp only [aliveB, ih.2, Bool.false_and]
theorem alive_stop {p : V.Prog} {inp : List Int} {k : Nat} (h : movB (runM p inp k) = false) : aliveB p inp (k + 1) = false := by simp only [aliveB, h, Bool.and_false]
theorem alive_go {p : V.Prog} {inp : List Int} {k : Nat} (ha : aliveB p inp k = true) (h : movB (runM p inp k) = true) : aliveB p inp (k + 1) = true := by simp only [aliveB, ha, h, Bool.and_self]
theorem vis_len (p : V.Prog) (inp : List Int) (pc : Int) (k : Nat) : (visTo p inp pc k).length ≤ k := by
  induction k with
  | zero => simp [visTo]
  | succ k ih => simp only [visTo, List.length_append]; split <;> simp <;> omega
theorem vis_end {p : V.Prog} {inp : List Int} {pc fuel : Int} {k : Nat} (h : (k : Int) = fuel) : visTo p inp pc (fuel.toNat + 1) = visTo p inp pc (k + 1) := by rw [show fuel.toNat = k from by omega]
theorem vis_stop {p : V.Prog} {inp : List Int} {pc fuel : Int} {k : Nat} (hk : k ≤ fuel.toNat) (h : movB (runM p inp k) = false) : visTo p inp pc (fuel.toNat + 1) = visTo p inp pc (k + 1) := (vis_dead (alive_stop h) (by omega)).1
theorem run_small {p : V.Prog} {inp : List Int} (h : inputsP p inp = true) (k : Nat) : (runM p inp k).regs.length ≤ 1048576 ∧ (runM p inp k).mem.length ≤ 1048576 ∧ (runM p inp k).stack.length ≤ 1048576 ∧ (runM p inp k).out.length ≤ 1048576 := by
  have m := run_ok h k
  have h1 := m.regs; have h2 := m.mem; have h3 := m.stk; have h4 := m.out
  have h5 := prog_mem (inp_p h)
  omega
theorem mov_yes {p : V.Prog} {s : V.State} (m : MOk p s) (h : s.code = 0) (h4 : ¬ s.steps = 400) : movB s = true := by
  have := m.steps
  unfold movB; rw [decide_eq_true h, decide_eq_true (by omega)]; rfl
theorem mov_code {s : V.State} (h : ¬ s.code = 0) : movB s = false := by unfold movB; rw [decide_eq_false h]; rfl
theorem mov_steps {s : V.State} (h : s.steps = 400) : movB s = false := by unfold movB; rw [h]; exact Bool.and_false _
theorem fuel_b {fuel : Int} (h : inP fuel 0 400 = true) : 0 ≤ fuel ∧ fuel ≤ 400 := by simpa [inP] using h
set_option maxHeartbeats 8000000 in
set_option maxRecDepth 100000 in
theorem i_VisOk (w mem inn : Int) (c : List V.Ins) (inp : List Int) (fuel pc : Int) (hp : progP ⟨w, mem, inn, c⟩ = true) (hi : inputsP ⟨w, mem, inn, c⟩ inp = true) (hf : inP fuel 0 400 = true) (hq : inP pc 0 c.length = true) : CallsF Try.prog 20 [.agg [.dat (.i w), .dat (.i mem), .dat (.i inn), .dat (.seq .inss c)], .dat (.seq .ints inp), .dat (.i fuel), .dat (.i pc)] true (fun res B => res = .row 0 ∧ B = [.tree 39 .states (visTo ⟨w, mem, inn, c⟩ inp pc (fuel.toNat + 1))]) := by
  refine CallsF.of_awp tauOk mixOk Try.func20 rfl rfl rfl ?_
  conv => whnf
  repeat' (first
    | ((with_reducible refine Alt.r ?_); conv => whnf)
    | ((with_reducible refine fun (K1 : AX → AState → Prop) hK => ?_); conv => whnf)
    | ((with_reducible show K1 _ _); subst hK; conv => whnf)
    | (with_reducible exact rfl)
    | ((with_reducible refine sp_T ?_); conv => whnf)
    | ((with_reducible refine sp_F ?_); conv => whnf)
    | ((with_reducible refine sp_T' ?_); conv => whnf)
    | ((with_reducible refine sp_F' ?_); conv => whnf)
    | ((with_reducible refine sp_dF ?_ ?_); decide; conv => whnf)
    | ((with_reducible refine sp_dT ?_ ?_); decide; conv => whnf)
    | ((with_reducible refine sp_d (fun h => ?_) (fun h => ?_)) <;> first | contradiction | (subst h; conv => whnf) | (conv => whnf))
    | ((with_reducible refine sp_d' (fun h => ?_) (fun h => ?_)) <;> first | contradiction | (subst h; conv => whnf) | (conv => whnf))
    | ((with_reducible refine sp_eF ?_ ?_); decide; conv => whnf)
    | ((with_reducible refine sp_eT ?_); conv => whnf)
    | ((with_reducible refine sp_e (fun h => ?_) (fun h => ?_)) <;> first | contradiction | (subst h; conv => whnf) | (conv => whnf))
    | ((with_reducible refine sp_e' (fun h => ?_) (fun h => ?_)) <;> first | contradiction | (subst h; conv => whnf) | (conv => whnf))
    | ((with_reducible refine sp_n (fun h => ?_) (fun h => ?_)) <;> first | contradiction | (subst h; conv => whnf) | (conv => whnf))
    | ((with_reducible refine sp_n' (fun h => ?_) (fun h => ?_)) <;> first | contradiction | (subst h; conv => whnf) | (conv => whnf))
    | ((with_reducible refine sp_nb (fun h => ?_) (fun h => ?_)) <;> first | (exact Bool.noConfusion (Eq.trans (Eq.symm h) (show _ = true by with_reducible assumption))) | (exact Bool.noConfusion (Eq.trans (Eq.symm (show _ = false by with_reducible assumption)) h)) | (conv => whnf))
    | ((with_reducible refine sp_nb' (fun h => ?_) (fun h => ?_)) <;> first | (exact Bool.noConfusion (Eq.trans (Eq.symm h) (show _ = true by with_reducible assumption))) | (exact Bool.noConfusion (Eq.trans (Eq.symm (show _ = false by with_reducible assumption)) h)) | (conv => whnf))
    | ((with_reducible refine sp_b (fun h => ?_) (fun h => ?_)) <;> first | (exact Bool.noConfusion (Eq.trans (Eq.symm h) (show _ = true by with_reducible assumption))) | (exact Bool.noConfusion (Eq.trans (Eq.symm (show _ = false by with_reducible assumption)) h)) | (conv => whnf))
    | ((with_reducible refine sp_b' (fun h => ?_) (fun h => ?_)) <;> first | (exact Bool.noConfusion (Eq.trans (Eq.symm h) (show _ = true by with_reducible assumption))) | (exact Bool.noConfusion (Eq.trans (Eq.symm (show _ = false by with_reducible assumption)) h)) | (conv => whnf))
    | (refine ⟨(rfl : nodupB _ = true), rfl, ?_⟩; conv => whnf)
    | (with_reducible refine bnd2 ?_ ?_)
    | (with_reducible refine bnd2' ?_ ?_)
    | (with_reducible refine bndN ?_ ?_)
    | ((with_reducible refine and_of ?_ ?_); conv => whnf)
    | (refine Exists.intro ({k : Nat // k ≤ fuel.toNat ∧ aliveB ⟨w, mem, inn, c⟩ inp k = true}) (Exists.intro (fun ⟨k, hk⟩ => mkS Try.f20.ntmps [(1, .dat (.seq .ints inp)), (2, .dat (.i fuel)), (3, .dat (.i pc)), (4, .ptr 4 0), (9, .row 109), (10, .ptr 10 0), (11, .dat (.i k))] [(4, .box [.dat (.i w), .dat (.i mem), .dat (.i inn), .dat (.seq .inss c)]), (10, .box [.dat (.i (runM ⟨w, mem, inn, c⟩ inp k).pc), .row 101, .row 102, .row 103, .dat (.i (runM ⟨w, mem, inn, c⟩ inp k).inn), .row 104, .dat (.i (runM ⟨w, mem, inn, c⟩ inp k).code), .dat (.i (runM ⟨w, mem, inn, c⟩ inp k).steps)]), (101, .row 3 .ints (runM ⟨w, mem, inn, c⟩ inp k).regs false), (102, .row 3 .ints (runM ⟨w, mem, inn, c⟩ inp k).mem false), (103, .row 3 .ints (runM ⟨w, mem, inn, c⟩ inp k).stack false), (104, .row 3 .ints (runM ⟨w, mem, inn, c⟩ inp k).out false), (109, .tree 39 .states (visTo ⟨w, mem, inn, c⟩ inp pc k))]) (Exists.intro (fun ⟨k, hk⟩ => fuel.toNat - k) (Exists.intro ⟨0, ⟨Nat.zero_le _, rfl⟩⟩ (And.intro (SubP.sub (σ := [(4, some 4), (10, some 10), (101, some 29000), (102, some 29001), (103, none), (104, none), (109, none)]) ⟨⟨rfl, rfl, rfl⟩, ⟨(wk_dat ?_), (wk_dat ?_), (wk_dat ?_), ⟨rfl, rfl⟩, rfl, ⟨rfl, rfl⟩, (wk_dat ?_), trivial⟩, ⟨⟨(wkC_dat ?_), (wkC_dat ?_), (wkC_dat ?_), (wkC_dat ?_), trivial⟩, ⟨(wkC_dat ?_), rfl, rfl, rfl, (wkC_dat ?_), rfl, (wkC_dat ?_), (wkC_dat ?_), trivial⟩, ⟨⟨rfl, rfl⟩, ?_⟩, ⟨⟨rfl, rfl⟩, ?_⟩, ?_, ?_, ?_, trivial⟩⟩) (fun ⟨k, hk⟩ => ?_))))); rotate_right; conv => whnf)
    | (refine Exists.intro ⟨k + 1, ?_⟩ (And.intro ?_ (SubP.sub (σ := [(4, some 4), (10, some 10), (101, some 56001), (102, some 56002), (103, some 56003), (104, some 56004), (109, some 109)]) ⟨⟨rfl, rfl, rfl⟩, ⟨(wk_dat ?_), (wk_dat ?_), (wk_dat ?_), ⟨rfl, rfl⟩, rfl, ⟨rfl, rfl⟩, (wk_dat ?_), trivial⟩, ⟨⟨(wkC_dat ?_), (wkC_dat ?_), (wkC_dat ?_), (wkC_dat ?_), trivial⟩, ⟨(wkC_dat ?_), rfl, rfl, rfl, (wkC_dat ?_), rfl, (wkC_dat ?_), (wkC_dat ?_), trivial⟩, ⟨⟨rfl, rfl⟩, ?_⟩, ⟨⟨rfl, rfl⟩, ?_⟩, ⟨⟨rfl, rfl⟩, ?_⟩, ⟨⟨rfl, rfl⟩, ?_⟩, ⟨rfl, ?_⟩, trivial⟩⟩)))
    | (refine Exists.intro ⟨k + 1, ?_⟩ (And.intro ?_ (SubP.sub (σ := [(4, some 4), (10, some 10), (101, some 56001), (102, some 56002), (103, some 56003), (104, some 56004), (109, some 44)]) ⟨⟨rfl, rfl, rfl⟩, ⟨(wk_dat ?_), (wk_dat ?_), (wk_dat ?_), ⟨rfl, rfl⟩, rfl, ⟨rfl, rfl⟩, (wk_dat ?_), trivial⟩, ⟨⟨(wkC_dat ?_), (wkC_dat ?_), (wkC_dat ?_), (wkC_dat ?_), trivial⟩, ⟨(wkC_dat ?_), rfl, rfl, rfl, (wkC_dat ?_), rfl, (wkC_dat ?_), (wkC_dat ?_), trivial⟩, ⟨⟨rfl, rfl⟩, ?_⟩, ⟨⟨rfl, rfl⟩, ?_⟩, ⟨⟨rfl, rfl⟩, ?_⟩, ⟨⟨rfl, rfl⟩, ?_⟩, ⟨rfl, ?_⟩, trivial⟩⟩)))
    | ((with_reducible refine pcI (g := 74) ?_); refine ⟨_, i_InputsOk .., rfl, ?_⟩; rotate_right; conv => whnf)
    | ((with_reducible show Exists _); refine Exists.intro _ (And.intro (i_InputsOk ..) (And.intro rfl ?_)); rotate_right; conv => whnf)
    | ((with_reducible refine pcI (g := 67) ?_); refine ⟨_, i_fuelOk .., rfl, ?_⟩; rotate_right; conv => whnf)
    | ((with_reducible show Exists _); refine Exists.intro _ (And.intro (i_fuelOk ..) (And.intro rfl ?_)); rotate_right; conv => whnf)
    | ((with_reducible refine pcI (g := 75) ?_); refine ⟨_, i_isPlace .., rfl, ?_⟩; rotate_right; conv => whnf)
    | ((with_reducible show Exists _); refine Exists.intro _ (And.intro (i_isPlace ..) (And.intro rfl ?_)); rotate_right; conv => whnf)
    | ((with_reducible refine fcI (g := 26) ?_); refine ⟨_, _, i_NewState (hp := by assumption) .., rfl, fun res B hRB => ?_⟩; rotate_right; obtain ⟨rfl, rfl⟩ := hRB; conv => whnf)
    | ((with_reducible refine fcI (g := 76) ?_); refine ⟨_, _, i_copyState (h1 := ?_) (h2 := ?_) (h3 := ?_) (h4 := ?_) .., rfl, fun res B hRB => ?_⟩; rotate_right; obtain ⟨rfl, rfl⟩ := hRB; conv => whnf)
    | ((with_reducible refine gcI (g := 77) ?_); refine ⟨_, _, i_moves .., fun res B hRB => ?_⟩; rotate_right; obtain ⟨rfl, rfl⟩ := hRB; conv => whnf)
    | ((with_reducible refine gcI (g := 78) ?_); refine ⟨_, _, i_step (hp := ?_) (hM := ?_) (hin := ?_) (_hiw := ?_) .., fun res B hRB => ?_⟩; rotate_right; obtain ⟨rfl, rfl⟩ := hRB; conv => whnf)
    | ((with_reducible show awpOps _ _ _ _ _ _); conv => whnf)
    | (intro h; conv => whnf))
  all_goals (repeat (clear hK; clear K1))
  all_goals first
    | (with_reducible rfl)
    | (with_reducible assumption)
    | exact (rfl : AV.num [44] (AV.row 44) = AV.row 0)
    | exact (rfl : AV.num [50] (AV.row 50) = AV.row 0)
    | exact (rfl : AV.num [109] (AV.row 109) = AV.row 0)
    | (show Dat.i (runM ⟨w, mem, inn, c⟩ inp (k + 1)).pc = _; rfl)
    | (show Dat.i (runM ⟨w, mem, inn, c⟩ inp 0).pc = _; rfl)
    | (show Dat.i (runM ⟨w, mem, inn, c⟩ inp (k + 1)).inn = _; rfl)
    | (show Dat.i (runM ⟨w, mem, inn, c⟩ inp 0).inn = _; rfl)
    | (show Dat.i (runM ⟨w, mem, inn, c⟩ inp (k + 1)).code = _; rfl)
    | (show Dat.i (runM ⟨w, mem, inn, c⟩ inp 0).code = _; rfl)
    | (show Dat.i (runM ⟨w, mem, inn, c⟩ inp (k + 1)).steps = _; rfl)
    | (show Dat.i (runM ⟨w, mem, inn, c⟩ inp 0).steps = _; rfl)
    | (show (⟨K.ints, (runM ⟨w, mem, inn, c⟩ inp (k + 1)).regs⟩ : (κ : K) × List κ.T) = _; rfl)
    | (show (⟨K.ints, (runM ⟨w, mem, inn, c⟩ inp 0).regs⟩ : (κ : K) × List κ.T) = _; rfl)
    | (show (⟨K.ints, (runM ⟨w, mem, inn, c⟩ inp (k + 1)).mem⟩ : (κ : K) × List κ.T) = _; rfl)
    | (show (⟨K.ints, (runM ⟨w, mem, inn, c⟩ inp 0).mem⟩ : (κ : K) × List κ.T) = _; rfl)
    | (show (⟨K.ints, (runM ⟨w, mem, inn, c⟩ inp (k + 1)).stack⟩ : (κ : K) × List κ.T) = _; rfl)
    | (show (⟨K.ints, (runM ⟨w, mem, inn, c⟩ inp 0).stack⟩ : (κ : K) × List κ.T) = _; rfl)
    | (show (⟨K.ints, (runM ⟨w, mem, inn, c⟩ inp (k + 1)).out⟩ : (κ : K) × List κ.T) = _; rfl)
    | (show (⟨K.ints, (runM ⟨w, mem, inn, c⟩ inp 0).out⟩ : (κ : K) × List κ.T) = _; rfl)
    | exact run_ok hi k
    | exact inp_len hi
    | exact inp_w hi
    | exact inp_w hi _ (by with_reducible assumption)
    | exact (run_small hi k).1
    | exact (run_small hi k).2.1
    | exact (run_small hi k).2.2.1
    | exact (run_small hi k).2.2.2
    | exact (rfl : Dat.i ((0 : Nat) : Int) = Dat.int .i64 0)
    | (have q := fuel_b hf; omega)
    | (have q := fuel_b hf; dsimp only; omega)
    | (have q := fuel_b hf; exact congrArg (Dat.int .i64) (wrap_id (by omega) (by omega)).symm)
    | exact sig_fin (vis_yes hk.2 rfl (by with_reducible assumption))
    | exact sig_fin (vis_no (fun x => absurd x.1 (by with_reducible assumption)))
    | exact sig_fin (vis_no (fun x => absurd x.2 (by with_reducible assumption)))
    | (have q := vis_len (⟨w, mem, inn, c⟩ : V.Prog) inp (runM ⟨w, mem, inn, c⟩ inp k).pc k; have q2 := fuel_b hf; show (_ + 1) * 128 ≤ _; omega)
    | (have q := vis_len (⟨w, mem, inn, c⟩ : V.Prog) inp (runM ⟨w, mem, inn, c⟩ inp k).pc k; have q2 := fuel_b hf; show _ + 1 ≤ maxLen; have hm : maxLen = 9223372036854775807 := rfl; omega)
    | exact alive_go hk.2 (show (decide ((runM ⟨w, mem, inn, c⟩ inp k).code = 0) && decide ((runM ⟨w, mem, inn, c⟩ inp k).steps < 400)) = true by with_reducible assumption)
    | exact tree_fin ((vis_yes hk.2 rfl (by with_reducible assumption)).symm.trans (vis_end rfl).symm)
    | exact tree_fin ((vis_yes hk.2 rfl (by with_reducible assumption)).symm.trans (vis_end (by with_reducible assumption)).symm)
    | exact tree_fin ((vis_yes hk.2 rfl (by with_reducible assumption)).symm.trans (vis_stop hk.1 (show (decide ((runM ⟨w, mem, inn, c⟩ inp k).code = 0) && decide ((runM ⟨w, mem, inn, c⟩ inp k).steps < 400)) = false by with_reducible assumption)).symm)
    | exact tree_fin ((vis_no (fun x => absurd x.1 (by with_reducible assumption))).symm.trans (vis_end rfl).symm)
    | exact tree_fin ((vis_no (fun x => absurd x.1 (by with_reducible assumption))).symm.trans (vis_end (by with_reducible assumption)).symm)
    | exact tree_fin ((vis_no (fun x => absurd x.2 (by with_reducible assumption))).symm.trans (vis_end rfl).symm)
    | exact tree_fin ((vis_no (fun x => absurd x.2 (by with_reducible assumption))).symm.trans (vis_end (by with_reducible assumption)).symm)
    | exact tree_fin ((vis_no (fun x => absurd x.1 (by with_reducible assumption))).symm.trans (vis_stop hk.1 (show (decide ((runM ⟨w, mem, inn, c⟩ inp k).code = 0) && decide ((runM ⟨w, mem, inn, c⟩ inp k).steps < 400)) = false by with_reducible assumption)).symm)
    | exact tree_fin ((vis_no (fun x => absurd x.2 (by with_reducible assumption))).symm.trans (vis_stop hk.1 (show (decide ((runM ⟨w, mem, inn, c⟩ inp k).code = 0) && decide ((runM ⟨w, mem, inn, c⟩ inp k).steps < 400)) = false by with_reducible assumption)).symm)
    | rfl
    | skip
set_option maxHeartbeats 8000000 in
set_option maxRecDepth 100000 in
theorem s_VisOk (w mem inn : Int) (c : List V.Ins) (inp : List Int) (fuel pc : Int) (hp : progP ⟨w, mem, inn, c⟩ = true) (hi : inputsP ⟨w, mem, inn, c⟩ inp = true) (hf : inP fuel 0 400 = true) (hq : inP pc 0 c.length = true) : CallsF Try.prog 21 [.agg [.dat (.i w), .dat (.i mem), .dat (.i inn), .dat (.seq .inss c)], .dat (.seq .ints inp), .dat (.i fuel), .dat (.i pc)] true (fun res B => res = .row 0 ∧ B = [.tree 39 .states (visTo ⟨w, mem, inn, c⟩ inp pc (fuel.toNat + 1))]) := by
  refine CallsF.of_awp tauOk mixOk Try.func21 rfl rfl rfl ?_
  conv => whnf
  repeat' (first
    | ((with_reducible refine Alt.r ?_); conv => whnf)
    | ((with_reducible refine fun (K1 : AX → AState → Prop) hK => ?_); conv => whnf)
    | ((with_reducible show K1 _ _); subst hK; conv => whnf)
    | (with_reducible exact rfl)
    | ((with_reducible refine sp_T ?_); conv => whnf)
    | ((with_reducible refine sp_F ?_); conv => whnf)
    | ((with_reducible refine sp_T' ?_); conv => whnf)
    | ((with_reducible refine sp_F' ?_); conv => whnf)
    | ((with_reducible refine sp_dF ?_ ?_); decide; conv => whnf)
    | ((with_reducible refine sp_dT ?_ ?_); decide; conv => whnf)
    | ((with_reducible refine sp_d (fun h => ?_) (fun h => ?_)) <;> first | contradiction | (subst h; conv => whnf) | (conv => whnf))
    | ((with_reducible refine sp_d' (fun h => ?_) (fun h => ?_)) <;> first | contradiction | (subst h; conv => whnf) | (conv => whnf))
    | ((with_reducible refine sp_eF ?_ ?_); decide; conv => whnf)
    | ((with_reducible refine sp_eT ?_); conv => whnf)
    | ((with_reducible refine sp_e (fun h => ?_) (fun h => ?_)) <;> first | contradiction | (subst h; conv => whnf) | (conv => whnf))
    | ((with_reducible refine sp_e' (fun h => ?_) (fun h => ?_)) <;> first | contradiction | (subst h; conv => whnf) | (conv => whnf))
    | ((with_reducible refine sp_n (fun h => ?_) (fun h => ?_)) <;> first | contradiction | (subst h; conv => whnf) | (conv => whnf))
    | ((with_reducible refine sp_n' (fun h => ?_) (fun h => ?_)) <;> first | contradiction | (subst h; conv => whnf) | (conv => whnf))
    | ((with_reducible refine sp_nb (fun h => ?_) (fun h => ?_)) <;> first | (exact Bool.noConfusion (Eq.trans (Eq.symm h) (show _ = true by with_reducible assumption))) | (exact Bool.noConfusion (Eq.trans (Eq.symm (show _ = false by with_reducible assumption)) h)) | (conv => whnf))
    | ((with_reducible refine sp_nb' (fun h => ?_) (fun h => ?_)) <;> first | (exact Bool.noConfusion (Eq.trans (Eq.symm h) (show _ = true by with_reducible assumption))) | (exact Bool.noConfusion (Eq.trans (Eq.symm (show _ = false by with_reducible assumption)) h)) | (conv => whnf))
    | ((with_reducible refine sp_b (fun h => ?_) (fun h => ?_)) <;> first | (exact Bool.noConfusion (Eq.trans (Eq.symm h) (show _ = true by with_reducible assumption))) | (exact Bool.noConfusion (Eq.trans (Eq.symm (show _ = false by with_reducible assumption)) h)) | (conv => whnf))
    | ((with_reducible refine sp_b' (fun h => ?_) (fun h => ?_)) <;> first | (exact Bool.noConfusion (Eq.trans (Eq.symm h) (show _ = true by with_reducible assumption))) | (exact Bool.noConfusion (Eq.trans (Eq.symm (show _ = false by with_reducible assumption)) h)) | (conv => whnf))
    | (refine ⟨(rfl : nodupB _ = true), rfl, ?_⟩; conv => whnf)
    | (with_reducible refine bnd2 ?_ ?_)
    | (with_reducible refine bnd2' ?_ ?_)
    | (with_reducible refine bndN ?_ ?_)
    | ((with_reducible refine and_of ?_ ?_); conv => whnf)
    | (refine Exists.intro ({k : Nat // k ≤ fuel.toNat + 1 ∧ aliveB ⟨w, mem, inn, c⟩ inp k = true}) (Exists.intro (fun ⟨k, hk⟩ => mkS Try.f21.ntmps [(1, .dat (.seq .ints inp)), (2, .dat (.i fuel)), (3, .dat (.i pc)), (4, .ptr 4 0), (9, .row 109), (10, .ptr 10 0), (11, .dat (.i k))] [(4, .box [.dat (.i w), .dat (.i mem), .dat (.i inn), .dat (.seq .inss c)]), (10, .box [.dat (.i (runM ⟨w, mem, inn, c⟩ inp k).pc), .row 101, .row 102, .row 103, .dat (.i (runM ⟨w, mem, inn, c⟩ inp k).inn), .row 104, .dat (.i (runM ⟨w, mem, inn, c⟩ inp k).code), .dat (.i (runM ⟨w, mem, inn, c⟩ inp k).steps)]), (101, .row 3 .ints (runM ⟨w, mem, inn, c⟩ inp k).regs false), (102, .row 3 .ints (runM ⟨w, mem, inn, c⟩ inp k).mem false), (103, .row 3 .ints (runM ⟨w, mem, inn, c⟩ inp k).stack false), (104, .row 3 .ints (runM ⟨w, mem, inn, c⟩ inp k).out false), (109, .tree 39 .states (visTo ⟨w, mem, inn, c⟩ inp pc k))]) (Exists.intro (fun ⟨k, hk⟩ => fuel.toNat + 1 - k) (Exists.intro ⟨0, ⟨Nat.zero_le _, rfl⟩⟩ (And.intro (SubP.sub (σ := [(4, some 4), (10, some 10), (101, some 32000), (102, some 32001), (103, none), (104, none), (109, some 29)]) ⟨⟨rfl, rfl, rfl⟩, ⟨(wk_dat ?_), (wk_dat ?_), (wk_dat ?_), ⟨rfl, rfl⟩, rfl, ⟨rfl, rfl⟩, (wk_dat ?_), trivial⟩, ⟨⟨(wkC_dat ?_), (wkC_dat ?_), (wkC_dat ?_), (wkC_dat ?_), trivial⟩, ⟨(wkC_dat ?_), rfl, rfl, rfl, (wkC_dat ?_), rfl, (wkC_dat ?_), (wkC_dat ?_), trivial⟩, ⟨⟨rfl, rfl⟩, ?_⟩, ⟨⟨rfl, rfl⟩, ?_⟩, ?_, ?_, ⟨rfl, ?_⟩, trivial⟩⟩) (fun ⟨k, hk⟩ => ?_))))); rotate_right; conv => whnf)
    | (refine Exists.intro ⟨k + 1, ?_⟩ (And.intro ?_ (SubP.sub (σ := [(4, some 4), (10, some 10), (101, some 58000), (102, some 58001), (103, some 58002), (104, some 58003), (109, some 109)]) ⟨⟨rfl, rfl, rfl⟩, ⟨(wk_dat ?_), (wk_dat ?_), (wk_dat ?_), ⟨rfl, rfl⟩, rfl, ⟨rfl, rfl⟩, (wk_dat ?_), trivial⟩, ⟨⟨(wkC_dat ?_), (wkC_dat ?_), (wkC_dat ?_), (wkC_dat ?_), trivial⟩, ⟨(wkC_dat ?_), rfl, rfl, rfl, (wkC_dat ?_), rfl, (wkC_dat ?_), (wkC_dat ?_), trivial⟩, ⟨⟨rfl, rfl⟩, ?_⟩, ⟨⟨rfl, rfl⟩, ?_⟩, ⟨⟨rfl, rfl⟩, ?_⟩, ⟨⟨rfl, rfl⟩, ?_⟩, ⟨rfl, ?_⟩, trivial⟩⟩)))
    | (refine Exists.intro ⟨k + 1, ?_⟩ (And.intro ?_ (SubP.sub (σ := [(4, some 4), (10, some 10), (101, some 58000), (102, some 58001), (103, some 58002), (104, some 58003), (109, some 50)]) ⟨⟨rfl, rfl, rfl⟩, ⟨(wk_dat ?_), (wk_dat ?_), (wk_dat ?_), ⟨rfl, rfl⟩, rfl, ⟨rfl, rfl⟩, (wk_dat ?_), trivial⟩, ⟨⟨(wkC_dat ?_), (wkC_dat ?_), (wkC_dat ?_), (wkC_dat ?_), trivial⟩, ⟨(wkC_dat ?_), rfl, rfl, rfl, (wkC_dat ?_), rfl, (wkC_dat ?_), (wkC_dat ?_), trivial⟩, ⟨⟨rfl, rfl⟩, ?_⟩, ⟨⟨rfl, rfl⟩, ?_⟩, ⟨⟨rfl, rfl⟩, ?_⟩, ⟨⟨rfl, rfl⟩, ?_⟩, ⟨rfl, ?_⟩, trivial⟩⟩)))
    | ((with_reducible refine pcI (g := 70) ?_); refine ⟨_, s_InputsOk .., rfl, ?_⟩; rotate_right; conv => whnf)
    | ((with_reducible show Exists _); refine Exists.intro _ (And.intro (s_InputsOk ..) (And.intro rfl ?_)); rotate_right; conv => whnf)
    | ((with_reducible refine pcI (g := 63) ?_); refine ⟨_, s_l01In .., rfl, ?_⟩; rotate_right; conv => whnf)
    | ((with_reducible show Exists _); refine Exists.intro _ (And.intro (s_l01In ..) (And.intro rfl ?_)); rotate_right; conv => whnf)
    | ((with_reducible refine fcI (g := 71) ?_); refine ⟨_, _, s_NewState (hp := by assumption) .., rfl, fun res B hRB => ?_⟩; rotate_right; obtain ⟨rfl, rfl⟩ := hRB; conv => whnf)
    | ((with_reducible refine fcI (g := 79) ?_); refine ⟨_, _, s_l05Copy (h1 := ?_) (h2 := ?_) (h3 := ?_) (h4 := ?_) .., rfl, fun res B hRB => ?_⟩; rotate_right; obtain ⟨rfl, rfl⟩ := hRB; conv => whnf)
    | ((with_reducible refine gcI (g := 72) ?_); refine ⟨_, _, s_l05Step (hp := ?_) (hM := ?_) (hin := ?_) (_hiw := ?_) .., fun res B hRB => ?_⟩; rotate_right; obtain ⟨rfl, rfl⟩ := hRB; conv => whnf)
    | ((with_reducible show awpOps _ _ _ _ _ _); conv => whnf)
    | (intro h; conv => whnf))
  all_goals (repeat (clear hK; clear K1))
  all_goals first
    | (with_reducible rfl)
    | (with_reducible assumption)
    | exact (rfl : AV.num [44] (AV.row 44) = AV.row 0)
    | exact (rfl : AV.num [50] (AV.row 50) = AV.row 0)
    | exact (rfl : AV.num [109] (AV.row 109) = AV.row 0)
    | (show Dat.i (runM ⟨w, mem, inn, c⟩ inp (k + 1)).pc = _; rfl)
    | (show Dat.i (runM ⟨w, mem, inn, c⟩ inp 0).pc = _; rfl)
    | (show Dat.i (runM ⟨w, mem, inn, c⟩ inp (k + 1)).inn = _; rfl)
    | (show Dat.i (runM ⟨w, mem, inn, c⟩ inp 0).inn = _; rfl)
    | (show Dat.i (runM ⟨w, mem, inn, c⟩ inp (k + 1)).code = _; rfl)
    | (show Dat.i (runM ⟨w, mem, inn, c⟩ inp 0).code = _; rfl)
    | (show Dat.i (runM ⟨w, mem, inn, c⟩ inp (k + 1)).steps = _; rfl)
    | (show Dat.i (runM ⟨w, mem, inn, c⟩ inp 0).steps = _; rfl)
    | (show (⟨K.ints, (runM ⟨w, mem, inn, c⟩ inp (k + 1)).regs⟩ : (κ : K) × List κ.T) = _; rfl)
    | (show (⟨K.ints, (runM ⟨w, mem, inn, c⟩ inp 0).regs⟩ : (κ : K) × List κ.T) = _; rfl)
    | (show (⟨K.ints, (runM ⟨w, mem, inn, c⟩ inp (k + 1)).mem⟩ : (κ : K) × List κ.T) = _; rfl)
    | (show (⟨K.ints, (runM ⟨w, mem, inn, c⟩ inp 0).mem⟩ : (κ : K) × List κ.T) = _; rfl)
    | (show (⟨K.ints, (runM ⟨w, mem, inn, c⟩ inp (k + 1)).stack⟩ : (κ : K) × List κ.T) = _; rfl)
    | (show (⟨K.ints, (runM ⟨w, mem, inn, c⟩ inp 0).stack⟩ : (κ : K) × List κ.T) = _; rfl)
    | (show (⟨K.ints, (runM ⟨w, mem, inn, c⟩ inp (k + 1)).out⟩ : (κ : K) × List κ.T) = _; rfl)
    | (show (⟨K.ints, (runM ⟨w, mem, inn, c⟩ inp 0).out⟩ : (κ : K) × List κ.T) = _; rfl)
    | exact run_ok hi k
    | exact inp_len hi
    | exact inp_w hi
    | exact inp_w hi _ (by with_reducible assumption)
    | exact (run_small hi k).1
    | exact (run_small hi k).2.1
    | exact (run_small hi k).2.2.1
    | exact (run_small hi k).2.2.2
    | exact (rfl : Dat.i ((0 : Nat) : Int) = Dat.int .i64 0)
    | (have q := fuel_b hf; omega)
    | (have q := fuel_b hf; dsimp only; omega)
    | (have q := fuel_b hf; exact congrArg (Dat.int .i64) (wrap_id (by omega) (by omega)).symm)
    | exact sig_fin (vis_yes hk.2 rfl (by with_reducible assumption))
    | exact sig_fin (vis_no (fun x => absurd x.1 (by with_reducible assumption)))
    | exact sig_fin (vis_no (fun x => absurd x.2 (by with_reducible assumption)))
    | (have q := vis_len (⟨w, mem, inn, c⟩ : V.Prog) inp (runM ⟨w, mem, inn, c⟩ inp k).pc k; have q2 := fuel_b hf; show (_ + 1) * 128 ≤ _; omega)
    | (have q := vis_len (⟨w, mem, inn, c⟩ : V.Prog) inp (runM ⟨w, mem, inn, c⟩ inp k).pc k; have q2 := fuel_b hf; show _ + 1 ≤ maxLen; have hm : maxLen = 9223372036854775807 := rfl; omega)
    | exact alive_go hk.2 (mov_yes (run_ok hi k) (by with_reducible assumption) (by with_reducible assumption))
    | exact tree_fin (by rw [show k = fuel.toNat + 1 from by have q := fuel_b hf; omega])
    | exact tree_fin ((vis_no (fun x => absurd x.2 (by with_reducible assumption))).symm.trans (vis_stop (by have q := fuel_b hf; omega) (mov_code (by with_reducible assumption))).symm)
    | exact tree_fin ((vis_yes hk.2 rfl (by with_reducible assumption)).symm.trans (vis_stop (by have q := fuel_b hf; omega) (mov_steps (by with_reducible assumption))).symm)
    | exact tree_fin ((vis_no (fun x => absurd x.1 (by with_reducible assumption))).symm.trans (vis_stop (by have q := fuel_b hf; omega) (mov_steps (by with_reducible assumption))).symm)
    | rfl
    | skip
end Vg

