/- The law FnExactScoreOf: contract. Condition: lists are no longer than the law lets through. -/
import Derived.Test.YtjmgoefijnnooaaScore
namespace Vg
open Go Go.Proofs
theorem sz_1 {n : Nat} (h : ¬ (if (1048576 : Int) - (n : Nat) < 0 then (-1 : Int) else 1048576 - (n : Nat)) < 0) : n ≤ 1048576 ∧ (if (1048576 : Int) - (n : Nat) < 0 then (-1 : Int) else 1048576 - (n : Nat)) = 1048576 - n := by split at h <;> simp_all <;> omega
theorem sz_2 {n m : Nat} (h1 : ¬ (if (1048576 : Int) - (n : Nat) < 0 then (-1 : Int) else 1048576 - (n : Nat)) < 0) (h : ¬ (if (if (1048576 : Int) - (n : Nat) < 0 then (-1 : Int) else 1048576 - (n : Nat)) - (m : Nat) < 0 then (-1 : Int) else (if (1048576 : Int) - (n : Nat) < 0 then (-1 : Int) else 1048576 - (n : Nat)) - (m : Nat)) < 0) : m ≤ 1048576 := by
  rw [(sz_1 h1).2] at h
  split at h <;> omega
theorem tot_len {ts : List (List Int)} (h : totSS ts ≤ 1048576) : ts.length ≤ 1048576 := by unfold totSS at h; omega
set_option maxHeartbeats 2000000 in
set_option maxRecDepth 100000 in
theorem law_ScoreOf (w mem inn : Int) (c : List V.Ins) (ts : List (List Int)) (fuel : Int) : CallsV Try.prog 3 [.agg [.dat (.i w), .dat (.i mem), .dat (.i inn), .dat (.seq .inss c)], .dat (.seq .intss ts), .dat (.i fuel)] (.dat (.bool true)) := by
  refine CallsV.of_awp tauOk mixOk Try.func3 rfl rfl rfl ?_
  conv => whnf
  repeat' (first
    | ((with_reducible refine fun (K1 : AX → AState → Prop) hK => ?_); conv => whnf)
    | ((with_reducible show K1 _ _); subst hK; conv => whnf)
    | (with_reducible exact rfl)
    | ((with_reducible refine sp_T ?_); conv => whnf)
    | ((with_reducible refine sp_F ?_); conv => whnf)
    | ((with_reducible refine sp_T' ?_); conv => whnf)
    | ((with_reducible refine sp_F' ?_); conv => whnf)
    | ((with_reducible refine sp_dF ?_ ?_); decide; conv => whnf)
    | ((with_reducible refine sp_dT ?_ ?_); decide; conv => whnf)
    | ((with_reducible refine sp_d (fun h => ?_) (fun h => ?_)) <;> first | contradiction | (subst h; conv => whnf) | (conv => whnf))
    | ((with_reducible refine sp_d' (fun h => ?_) (fun h => ?_)) <;> first | contradiction | (subst h; conv => whnf) | (conv => whnf))
    | ((with_reducible refine sp_eF ?_ ?_); decide; conv => whnf)
    | ((with_reducible refine sp_eT ?_); conv => whnf)
    | ((with_reducible refine sp_e (fun h => ?_) (fun h => ?_)) <;> first | contradiction | (subst h; conv => whnf) | (conv => whnf))
    | ((with_reducible refine sp_e' (fun h => ?_) (fun h => ?_)) <;> first | contradiction | (subst h; conv => whnf) | (conv => whnf))
    | ((with_reducible refine sp_n (fun h => ?_) (fun h => ?_)) <;> first | contradiction | (subst h; conv => whnf) | (conv => whnf))
    | ((with_reducible refine sp_n' (fun h => ?_) (fun h => ?_)) <;> first | contradiction | (subst h; conv => whnf) | (conv => whnf))
    | ((with_reducible refine sp_nb (fun h => ?_) (fun h => ?_)) <;> first | contradiction | (exact Bool.noConfusion (Eq.trans (Eq.symm h) (show _ = true by assumption))) | (exact Bool.noConfusion (Eq.trans (Eq.symm (show _ = false by assumption)) h)) | (conv => whnf))
    | ((with_reducible refine sp_nb' (fun h => ?_) (fun h => ?_)) <;> first | contradiction | (exact Bool.noConfusion (Eq.trans (Eq.symm h) (show _ = true by assumption))) | (exact Bool.noConfusion (Eq.trans (Eq.symm (show _ = false by assumption)) h)) | (conv => whnf))
    | ((with_reducible refine sp_b (fun h => ?_) (fun h => ?_)) <;> first | contradiction | (exact Bool.noConfusion (Eq.trans (Eq.symm h) (show _ = true by assumption))) | (exact Bool.noConfusion (Eq.trans (Eq.symm (show _ = false by assumption)) h)) | (conv => whnf))
    | ((with_reducible refine sp_b' (fun h => ?_) (fun h => ?_)) <;> first | contradiction | (exact Bool.noConfusion (Eq.trans (Eq.symm h) (show _ = true by assumption))) | (exact Bool.noConfusion (Eq.trans (Eq.symm (show _ = false by assumption)) h)) | (conv => whnf))
    | (refine ⟨(rfl : nodupB _ = true), rfl, ?_⟩; conv => whnf)
    | (with_reducible refine bnd2 ?_ ?_)
    | (with_reducible refine bnd2' ?_ ?_)
    | (with_reducible refine bndN ?_ ?_)
    | ((with_reducible refine and_of ?_ ?_); conv => whnf)
    | ((with_reducible refine pcI (g := 15) ?_); refine ⟨_, l_szProgram (h0 := ?_) (h1 := ?_) .., rfl, ?_⟩; rotate_right; conv => whnf)
    | (refine Exists.intro _ (And.intro (l_szProgram (h0 := ?_) (h1 := ?_) ..) (And.intro rfl ?_)); rotate_right; conv => whnf)
    | ((with_reducible refine pcI (g := 16) ?_); refine ⟨_, l_szIntSS (h0 := ?_) (h1 := ?_) .., rfl, ?_⟩; rotate_right; conv => whnf)
    | (refine Exists.intro _ (And.intro (l_szIntSS (h0 := ?_) (h1 := ?_) ..) (And.intro rfl ?_)); rotate_right; conv => whnf)
    | ((with_reducible refine pcI (g := 17) ?_); refine ⟨_, s_ScoreOf (hl := ?_) .., rfl, ?_⟩; rotate_right; conv => whnf)
    | (refine Exists.intro _ (And.intro (s_ScoreOf (hl := ?_) ..) (And.intro rfl ?_)); rotate_right; conv => whnf)
    | ((with_reducible refine pcI (g := 18) ?_); refine ⟨_, l_toProgram (hl := ?_) .., rfl, ?_⟩; rotate_right; conv => whnf)
    | (refine Exists.intro _ (And.intro (l_toProgram (hl := ?_) ..) (And.intro rfl ?_)); rotate_right; conv => whnf)
    | ((with_reducible refine pcI (g := 19) ?_); refine ⟨_, l_toIntSS (hl := ?_) .., rfl, ?_⟩; rotate_right; conv => whnf)
    | (refine Exists.intro _ (And.intro (l_toIntSS (hl := ?_) ..) (And.intro rfl ?_)); rotate_right; conv => whnf)
    | ((with_reducible refine pcI (g := 20) ?_); refine ⟨_, i_ScoreOf (hl := ?_) .., rfl, ?_⟩; rotate_right; conv => whnf)
    | (refine Exists.intro _ (And.intro (i_ScoreOf (hl := ?_) ..) (And.intro rfl ?_)); rotate_right; conv => whnf)
    | ((with_reducible refine pcI (g := 21) ?_); refine ⟨_, l_eqProgram .., rfl, ?_⟩; rotate_right; conv => whnf)
    | (refine Exists.intro _ (And.intro (l_eqProgram ..) (And.intro rfl ?_)); rotate_right; conv => whnf)
    | ((with_reducible refine pcI (g := 22) ?_); refine ⟨_, l_eqIntSS .., rfl, ?_⟩; rotate_right; conv => whnf)
    | (refine Exists.intro _ (And.intro (l_eqIntSS ..) (And.intro rfl ?_)); rotate_right; conv => whnf)
    | ((with_reducible show awpOps _ _ _ _ _ _); conv => whnf)
    | (intro h; conv => whnf))
  all_goals (repeat (clear hK; clear K1))
  all_goals first
    | decide
    | (split <;> omega)
    | (have hc := (sz_1 (n := c.length) (by assumption)).1; exact hc)
    | (have hc := sz_2 (n := c.length) (m := totSS ts) (by assumption) (by assumption); exact hc)
    | (have hc := sz_2 (n := c.length) (m := totSS ts) (by assumption) (by assumption); exact tot_len hc)
    | (exact absurd (decide_eq_true (p := ts = ts) rfl) (by rw [h]; exact Bool.noConfusion))
    | (rw [decide_eq_true (p := (⟨w, mem, inn, c⟩ : V.Prog) = ⟨w, mem, inn, c⟩) rfl] at h; cases h)
    | (rw [decide_eq_true (p := ts = ts) rfl] at h; cases h)
    | (exact absurd rfl h)
    | skip
end Vg
