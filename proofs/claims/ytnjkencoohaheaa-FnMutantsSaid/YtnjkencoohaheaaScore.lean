/- Scores: contracts, and of the law FnExactScoreOf. Condition: lists are no longer than the law lets through. -/
import Derived.Test.YtnjkencoohaheaaKills
namespace Vg
open Go Go.Proofs
def scoreTo (p : V.Prog) (ts : List (List Int)) (fuel : Int) (ms : List V.Prog) (k : Nat) : Nat := ((List.range k).filter fun i => decide (0 < (killsP p (ms.getD i K.progs.dflt) ts fuel).length)).length
theorem scoreTo_yes {p : V.Prog} {ts : List (List Int)} {fuel : Int} {ms : List V.Prog} {k : Nat} (h : ((killsP p (ms.getD k K.progs.dflt) ts fuel).length : Int) > 0) : scoreTo p ts fuel ms (k + 1) = scoreTo p ts fuel ms k + 1 := by
  have h' : decide (0 < (killsP p (ms.getD k K.progs.dflt) ts fuel).length) = true := decide_eq_true (by omega)
  simp only [scoreTo, List.range_succ, List.filter_append, List.filter_cons, h', if_true, List.filter_nil, List.length_append, List.length_cons, List.length_nil]
theorem scoreTo_no {p : V.Prog} {ts : List (List Int)} {fuel : Int} {ms : List V.Prog} {k : Nat} (h : ¬ ((killsP p (ms.getD k K.progs.dflt) ts fuel).length : Int) > 0) : scoreTo p ts fuel ms (k + 1) = scoreTo p ts fuel ms k := by
  have h' : decide (0 < (killsP p (ms.getD k K.progs.dflt) ts fuel).length) = false := decide_eq_false (by omega)
  simp only [scoreTo, List.range_succ, List.filter_append, List.filter_cons, h', Bool.false_eq_true, if_false, List.filter_nil, List.append_nil]
theorem scoreTo_le (p : V.Prog) (ts : List (List Int)) (fuel : Int) (ms : List V.Prog) (k : Nat) : scoreTo p ts fuel ms k ≤ k := by
  have := List.length_filter_le (fun i => decide (0 < (killsP p (ms.getD i K.progs.dflt) ts fuel).length)) (List.range k)
  simpa [scoreTo] using this
theorem mutsP_len (p : V.Prog) : (mutsP p).length ≤ 80 := by
  unfold mutsP
  split
  · obtain ⟨w, mem, inn, c⟩ := p
    have := muts_len ⟨w, mem, inn, c⟩ c.length
    have := prog_c (by assumption)
    show (mutsTo _ c.length).length ≤ 80
    omega
  · simp
theorem tr_wrap {n k : Nat} {b : Bool} (h : n ≤ k) (hk : k ≤ 80) : IntKind.i64.wrap ((n : Int) + truthP b) = n + truthP b := by
  refine wrap_id ?_ ?_ <;> cases b <;> simp [truthP] <;> omega

theorem score_tr (p : V.Prog) (ts : List (List Int)) (fuel : Int) (ms : List V.Prog) (k : Nat) : ((scoreTo p ts fuel ms (k + 1) : Nat) : Int) = scoreTo p ts fuel ms k + truthP (decide (((killsP p (ms.getD k K.progs.dflt) ts fuel).length : Int) > 0)) := by
  by_cases h : ((killsP p (ms.getD k K.progs.dflt) ts fuel).length : Int) > 0
  · rw [scoreTo_yes h, decide_eq_true h]; simp [truthP]
  · rw [scoreTo_no h, decide_eq_false h]; simp [truthP]
set_option maxHeartbeats 2000000 in
set_option maxRecDepth 100000 in
theorem i_ScoreOf (w mem inn : Int) (c : List V.Ins) (ts : List (List Int)) (fuel : Int) (hl : ts.length ≤ 1048576) : CallsV Try.prog 18 [.agg [.dat (.i w), .dat (.i mem), .dat (.i inn), .dat (.seq .inss c)], .dat (.seq .intss ts), .dat (.i fuel)] (.tup [.dat (.i (scoreTo ⟨w, mem, inn, c⟩ ts fuel (mutsP ⟨w, mem, inn, c⟩) (mutsP ⟨w, mem, inn, c⟩).length)), .dat (.i (mutsP ⟨w, mem, inn, c⟩).length)]) := by
  refine CallsV.of_awp tauOk mixOk Try.func18 rfl rfl rfl ?_
  conv => whnf
  repeat' (first
    | ((with_reducible refine Alt.l ?_); conv => whnf)
    | ((with_reducible refine fun (K1 : AX → AState → Prop) hK => ?_); conv => whnf)
    | ((with_reducible show K1 _ _); subst hK; conv => whnf)
    | (with_reducible exact rfl)
    | ((with_reducible refine sp_T ?_); conv => whnf)
    | ((with_reducible refine sp_F ?_); conv => whnf)
    | ((with_reducible refine sp_T' ?_); conv => whnf)
    | ((with_reducible refine sp_F' ?_); conv => whnf)
    | ((with_reducible refine sp_dF ?_ ?_); decide; conv => whnf)
    | ((with_reducible refine sp_dT ?_ ?_); decide; conv => whnf)
    | ((with_reducible refine sp_d (fun h => ?_) (fun h => ?_)) <;> first | contradiction | (subst h; conv => whnf) | (conv => whnf))
    | ((with_reducible refine sp_d' (fun h => ?_) (fun h => ?_)) <;> first | contradiction | (subst h; conv => whnf) | (conv => whnf))
    | ((with_reducible refine sp_eF ?_ ?_); decide; conv => whnf)
    | ((with_reducible refine sp_eT ?_); conv => whnf)
    | ((with_reducible refine sp_e (fun h => ?_) (fun h => ?_)) <;> first | contradiction | (subst h; conv => whnf) | (conv => whnf))
    | ((with_reducible refine sp_e' (fun h => ?_) (fun h => ?_)) <;> first | contradiction | (subst h; conv => whnf) | (conv => whnf))
    | ((with_reducible refine sp_n (fun h => ?_) (fun h => ?_)) <;> first | contradiction | (subst h; conv => whnf) | (conv => whnf))
    | ((with_reducible refine sp_n' (fun h => ?_) (fun h => ?_)) <;> first | contradiction | (subst h; conv => whnf) | (conv => whnf))
    | ((with_reducible refine sp_nb (fun h => ?_) (fun h => ?_)) <;> first | contradiction | (exact Bool.noConfusion (Eq.trans (Eq.symm h) (show _ = true by assumption))) | (exact Bool.noConfusion (Eq.trans (Eq.symm (show _ = false by assumption)) h)) | (conv => whnf))
    | ((with_reducible refine sp_nb' (fun h => ?_) (fun h => ?_)) <;> first | contradiction | (exact Bool.noConfusion (Eq.trans (Eq.symm h) (show _ = true by assumption))) | (exact Bool.noConfusion (Eq.trans (Eq.symm (show _ = false by assumption)) h)) | (conv => whnf))
    | ((with_reducible refine sp_b (fun h => ?_) (fun h => ?_)) <;> first | contradiction | (exact Bool.noConfusion (Eq.trans (Eq.symm h) (show _ = true by assumption))) | (exact Bool.noConfusion (Eq.trans (Eq.symm (show _ = false by assumption)) h)) | (conv => whnf))
    | ((with_reducible refine sp_b' (fun h => ?_) (fun h => ?_)) <;> first | contradiction | (exact Bool.noConfusion (Eq.trans (Eq.symm h) (show _ = true by assumption))) | (exact Bool.noConfusion (Eq.trans (Eq.symm (show _ = false by assumption)) h)) | (conv => whnf))
    | (refine ⟨(rfl : nodupB _ = true), rfl, ?_⟩; conv => whnf)
    | (with_reducible refine bnd2 ?_ ?_)
    | (with_reducible refine bnd2' ?_ ?_)
    | (with_reducible refine bndN ?_ ?_)
    | ((with_reducible refine and_of ?_ ?_); conv => whnf)
    | (refine Exists.intro ({k : Nat // k ≤ (mutsP ⟨w, mem, inn, c⟩).length}) (Exists.intro (fun ⟨k, hk⟩ => mkS Try.f18.ntmps [(1, .dat (.seq .intss ts)), (2, .dat (.i fuel)), (3, .ptr 3 0), (8, .dat (.i (scoreTo ⟨w, mem, inn, c⟩ ts fuel (mutsP ⟨w, mem, inn, c⟩) k))), (9, .dat (.seq .progs (mutsP ⟨w, mem, inn, c⟩))), (14, .dat (.seq .progs (mutsP ⟨w, mem, inn, c⟩))), (15, .dat (.i (mutsP ⟨w, mem, inn, c⟩).length)), (16, .dat (.i k))] [(3, .box [.dat (.i w), .dat (.i mem), .dat (.i inn), .dat (.seq .inss c)])]) (Exists.intro (fun ⟨k, hk⟩ => (mutsP ⟨w, mem, inn, c⟩).length - k) (Exists.intro ⟨0, Nat.zero_le _⟩ (And.intro (SubP.sub (σ := [(3, some 3)]) ⟨⟨rfl, rfl, rfl⟩, ⟨(wk_dat ?_), (wk_dat ?_), ⟨rfl, rfl⟩, (wk_dat ?_), (wk_dat ?_), (wk_dat ?_), (wk_dat ?_), (wk_dat ?_), trivial⟩, ⟨⟨(wkC_dat ?_), (wkC_dat ?_), (wkC_dat ?_), (wkC_dat ?_), trivial⟩, trivial⟩⟩) (fun ⟨k, hk⟩ => ?_))))); rotate_right; conv => whnf)
    | (refine Exists.intro ⟨k + 1, ?_⟩ (And.intro ?_ (SubP.sub (σ := [(3, some 3)]) ⟨⟨rfl, rfl, rfl⟩, ⟨(wk_dat ?_), (wk_dat ?_), ⟨rfl, rfl⟩, (wk_dat ?_), (wk_dat ?_), (wk_dat ?_), (wk_dat ?_), (wk_dat ?_), trivial⟩, ⟨⟨(wkC_dat ?_), (wkC_dat ?_), (wkC_dat ?_), (wkC_dat ?_), trivial⟩, trivial⟩⟩)))
    | ((with_reducible show Exists _); refine Exists.intro _ (And.intro (i_MutantsOf (hp := by assumption) ..) (And.intro rfl ?_)); rotate_right; conv => whnf)
    | ((with_reducible show Exists _); refine Exists.intro _ (And.intro (i_MutantsOf0 (hp := by assumption) ..) (And.intro rfl ?_)); rotate_right; conv => whnf)
    | ((with_reducible refine pcI (g := 10) ?_); refine ⟨_, iv_MutantsOf .., rfl, ?_⟩; rotate_right; conv => whnf)
    | ((with_reducible show Exists _); refine Exists.intro _ (And.intro (iv_MutantsOf ..) (And.intro rfl ?_)); rotate_right; conv => whnf)
    | ((with_reducible show Exists _); refine Exists.intro _ (And.intro (i_KillsOf0 (hk := by assumption) ..) (And.intro rfl ?_)); rotate_right; conv => whnf)
    | ((with_reducible refine pcI (g := 15) ?_); refine ⟨_, iv_KillsOf (hl := ?_) .., rfl, ?_⟩; rotate_right; conv => whnf)
    | ((with_reducible show Exists _); refine Exists.intro _ (And.intro (iv_KillsOf (hl := ?_) ..) (And.intro rfl ?_)); rotate_right; conv => whnf)
    | ((with_reducible show awpOps _ _ _ _ _ _); conv => whnf)
    | (intro h; conv => whnf))
  all_goals (repeat (clear hK; clear K1))
  all_goals first
    | rfl
    | assumption
    | exact Bool.noConfusion (h.symm.trans hp)
    | omega
    | (dsimp only; omega)
    | exact congrArg (Dat.int .i64) (wrap_succ (by assumption) (by assumption)).symm
    | assumption
    | trivial
    | (have hb := scoreTo_le ⟨w, mem, inn, c⟩ ts fuel (mutsP ⟨w, mem, inn, c⟩) k; have := mutsP_len ⟨w, mem, inn, c⟩; rw [scoreTo_yes (by assumption), wrap_id (by omega) (by omega)]; rfl)
    | (have hb := scoreTo_le ⟨w, mem, inn, c⟩ ts fuel (mutsP ⟨w, mem, inn, c⟩) k; have := mutsP_len ⟨w, mem, inn, c⟩; rw [scoreTo_no (by assumption)])
    | (have hb := scoreTo_le ⟨w, mem, inn, c⟩ ts fuel (mutsP ⟨w, mem, inn, c⟩) k; have := mutsP_len ⟨w, mem, inn, c⟩; rw [tr_wrap hb (by omega)]; exact congrArg Dat.i (score_tr ..).symm)
    | (have hb := scoreTo_le ⟨w, mem, inn, c⟩ ts fuel (mutsP ⟨w, mem, inn, c⟩) k; have := mutsP_len ⟨w, mem, inn, c⟩; rw [tr_wrap hb (by omega)]; exact congrArg Dat.i (score_tr ..))
    | (obtain rfl := (show k = (mutsP ⟨w, mem, inn, c⟩).length by omega); exact rfl)
    | (have := mutsP_len ⟨w, mem, inn, c⟩; rw [wrap_id (by omega) (by omega)]; rfl)
end Vg
