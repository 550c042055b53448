/- The law FnExactMutantsOf: contracts. Condition: lists are no longer than the law lets through. -/
import Derived.Test.YtjmgoefijnnooaaTMutI
import Derived.Test.YtjmgoefijnnooaaTMutS
namespace Vg
open Go Go.Proofs
set_option maxHeartbeats 2000000 in
set_option maxRecDepth 100000 in
theorem l_l_eqProgramS (a b : List (K.T .progs)) : CallsV Try.prog 69 [.dat (.seq .progs a), .dat (.seq .progs b)] (.dat (.bool (decide (a = b)))) := by
  refine CallsV.of_awp tauOk mixOk Try.func69 rfl rfl rfl ?_
  conv => whnf
  repeat' (first
    | ((with_reducible refine Alt.l ?_); conv => whnf)
    | ((with_reducible refine fun (K1 : AX → AState → Prop) hK => ?_); conv => whnf)
    | ((with_reducible show K1 _ _); subst hK; conv => whnf)
    | (with_reducible exact rfl)
    | ((with_reducible refine sp_T ?_); conv => whnf)
    | ((with_reducible refine sp_F ?_); conv => whnf)
    | ((with_reducible refine sp_T' ?_); conv => whnf)
    | ((with_reducible refine sp_F' ?_); conv => whnf)
    | ((with_reducible refine sp_dF ?_ ?_); decide; conv => whnf)
    | ((with_reducible refine sp_dT ?_ ?_); decide; conv => whnf)
    | ((with_reducible refine sp_d (fun h => ?_) (fun h => ?_)) <;> first | contradiction | (subst h; conv => whnf) | (conv => whnf))
    | ((with_reducible refine sp_d' (fun h => ?_) (fun h => ?_)) <;> first | contradiction | (subst h; conv => whnf) | (conv => whnf))
    | ((with_reducible refine sp_eF ?_ ?_); decide; conv => whnf)
    | ((with_reducible refine sp_eT ?_); conv => whnf)
    | ((with_reducible refine sp_e (fun h => ?_) (fun h => ?_)) <;> first | contradiction | (subst h; conv => whnf) | (conv => whnf))
    | ((with_reducible refine sp_e' (fun h => ?_) (fun h => ?_)) <;> first | contradiction | (subst h; conv => whnf) | (conv => whnf))
    | ((with_reducible refine sp_n (fun h => ?_) (fun h => ?_)) <;> first | contradiction | (subst h; conv => whnf) | (conv => whnf))
    | ((with_reducible refine sp_n' (fun h => ?_) (fun h => ?_)) <;> first | contradiction | (subst h; conv => whnf) | (conv => whnf))
    | ((with_reducible refine sp_nb (fun h => ?_) (fun h => ?_)) <;> first | contradiction | (exact Bool.noConfusion (Eq.trans (Eq.symm h) (show _ = true by assumption))) | (exact Bool.noConfusion (Eq.trans (Eq.symm (show _ = false by assumption)) h)) | (conv => whnf))
    | ((with_reducible refine sp_nb' (fun h => ?_) (fun h => ?_)) <;> first | contradiction | (exact Bool.noConfusion (Eq.trans (Eq.symm h) (show _ = true by assumption))) | (exact Bool.noConfusion (Eq.trans (Eq.symm (show _ = false by assumption)) h)) | (conv => whnf))
    | ((with_reducible refine sp_b (fun h => ?_) (fun h => ?_)) <;> first | contradiction | (exact Bool.noConfusion (Eq.trans (Eq.symm h) (show _ = true by assumption))) | (exact Bool.noConfusion (Eq.trans (Eq.symm (show _ = false by assumption)) h)) | (conv => whnf))
    | ((with_reducible refine sp_b' (fun h => ?_) (fun h => ?_)) <;> first | contradiction | (exact Bool.noConfusion (Eq.trans (Eq.symm h) (show _ = true by assumption))) | (exact Bool.noConfusion (Eq.trans (Eq.symm (show _ = false by assumption)) h)) | (conv => whnf))
    | (refine ⟨(rfl : nodupB _ = true), rfl, ?_⟩; conv => whnf)
    | (with_reducible refine bnd2 ?_ ?_)
    | (with_reducible refine bnd2' ?_ ?_)
    | (with_reducible refine bndN ?_ ?_)
    | ((with_reducible refine and_of ?_ ?_); conv => whnf)
    | (refine Exists.intro ({k : Nat // a.take k = b.take k}) (Exists.intro (fun ⟨k, hk⟩ => mkS Try.f69.ntmps [(0, .dat (.seq .progs a)), (1, .dat (.seq .progs b)), (5, .dat (.i k))] []) (Exists.intro (fun ⟨k, hk⟩ => a.length - k) (Exists.intro ⟨0, rfl⟩ (And.intro (SubP.sub (σ := []) ⟨⟨rfl, rfl, rfl⟩, ⟨(wk_dat ?_), (wk_dat ?_), (wk_dat ?_), trivial⟩, trivial⟩) (fun ⟨k, hk⟩ => ?_))))); rotate_right; conv => whnf)
    | (refine Exists.intro ⟨k + 1, ?_⟩ (And.intro ?_ (SubP.sub (σ := []) ⟨⟨rfl, rfl, rfl⟩, ⟨(wk_dat ?_), (wk_dat ?_), (wk_dat ?_), trivial⟩, trivial⟩)))
    | ((with_reducible refine pcI (g := 21) ?_); refine ⟨_, l_eqProgram .., rfl, ?_⟩; rotate_right; conv => whnf)
    | ((with_reducible show Exists _); refine Exists.intro _ (And.intro (l_eqProgram ..) (And.intro rfl ?_)); rotate_right; conv => whnf)
    | ((with_reducible show awpOps _ _ _ _ _ _); conv => whnf)
    | (intro h; conv => whnf))
  all_goals (repeat (clear hK; clear K1))
  all_goals first
    | rfl
    | assumption
    | exact Bool.noConfusion (h.symm.trans hp)
    | omega
    | (dsimp only; omega)
    | exact congrArg (Dat.int .i64) (wrap_succ (by assumption) (by assumption)).symm
    | exact congrArg Dat.bool (decide_eq_false (fun e => h (by rw [e])))
    | exact take_eq_step (K.dflt .progs) (by assumption) (by omega) hk (of_decide_eq_true h)
    | exact take_eq_step (K.dflt .progs) (by assumption) (by omega) hk h
    | exact congrArg Dat.bool (decide_eq_false (ne_of_getD (of_decide_eq_false h)))
    | exact congrArg Dat.bool (decide_eq_false (ne_of_getD h))
    | exact congrArg Dat.bool (decide_eq_true (take_eq_end (by assumption) (by omega) hk))
theorem offP_all {m : Nat} : ∀ {l : List V.Prog}, (∀ q ∈ l, q.code.length = m) → offP l l.length = l.length * (3 + 4 * m)
  | [], _ => by simp [offP]
  | q :: l, h => by
    have ih := offP_all (l := l) fun x hx => h x (List.mem_cons_of_mem _ hx)
    have hq := h q List.mem_cons_self
    unfold offP at ih ⊢
    rw [List.take_length] at ih ⊢
    simp only [List.map_cons, List.sum_cons, List.length_cons]
    rw [ih, hq, Nat.add_mul]; omega
theorem muts_code (p : V.Prog) (k : Nat) : ∀ q ∈ mutsTo p k, q.code.length = p.code.length := by
  induction k with
  | zero => simp [mutsTo]
  | succ k ih =>
    intro q hq
    simp only [mutsTo, List.mem_append, List.mem_map] at hq
    rcases hq with hq | ⟨i, _, rfl⟩
    · exact ih q hq
    · simp
theorem muts_off {w mem inn : Int} {c : List V.Ins} (hp : progP ⟨w, mem, inn, c⟩ = true) : offP (mutsTo ⟨w, mem, inn, c⟩ c.length) (mutsTo ⟨w, mem, inn, c⟩ c.length).length ≤ 16777216 := by
  have h1 := muts_len ⟨w, mem, inn, c⟩ c.length
  have h2 := prog_c hp
  rw [offP_all (muts_code _ _)]
  have : (mutsTo ⟨w, mem, inn, c⟩ c.length).length * (3 + 4 * c.length) ≤ 80 * 163 := Nat.mul_le_mul (by omega) (by omega)
  exact Nat.le_trans this (by decide)
abbrev smL (L : Int) (n : Nat) : Int := if L - n < 0 then -1 else L - n
theorem smL_1 {n : Nat} (h : ¬ smL 1048576 n < 0) : n ≤ 1048576 := by
  unfold smL at h
  split at h
  · exact absurd (by decide) h
  · omega
set_option maxRecDepth 100000 in
theorem lm_toProgram (w mem inn : Int) (a : List V.Ins) (hl : a.length ≤ 1048576) : CallsF Try.prog 18 [.agg [.dat (.i w), .dat (.i mem), .dat (.i inn), .dat (.seq .inss a)]] true (fun res B => res = .agg [.dat (.i w), .dat (.i mem), .dat (.i inn), .row 0] ∧ B = [.row 69 .inss a false]) := by
  refine CallsF.of_awp tauOk mixOk Try.func18 rfl rfl rfl ?_
  conv => whnf
  repeat' (first
    | ((with_reducible refine Alt.l ?_); conv => whnf)
    | ((with_reducible refine fun (K1 : AX → AState → Prop) hK => ?_); conv => whnf)
    | ((with_reducible show K1 _ _); subst hK; conv => whnf)
    | (with_reducible exact rfl)
    | ((with_reducible refine sp_T ?_); conv => whnf)
    | ((with_reducible refine sp_F ?_); conv => whnf)
    | ((with_reducible refine sp_T' ?_); conv => whnf)
    | ((with_reducible refine sp_F' ?_); conv => whnf)
    | ((with_reducible refine sp_dF ?_ ?_); decide; conv => whnf)
    | ((with_reducible refine sp_dT ?_ ?_); decide; conv => whnf)
    | ((with_reducible refine sp_d (fun h => ?_) (fun h => ?_)) <;> first | contradiction | (subst h; conv => whnf) | (conv => whnf))
    | ((with_reducible refine sp_d' (fun h => ?_) (fun h => ?_)) <;> first | contradiction | (subst h; conv => whnf) | (conv => whnf))
    | ((with_reducible refine sp_eF ?_ ?_); decide; conv => whnf)
    | ((with_reducible refine sp_eT ?_); conv => whnf)
    | ((with_reducible refine sp_e (fun h => ?_) (fun h => ?_)) <;> first | contradiction | (subst h; conv => whnf) | (conv => whnf))
    | ((with_reducible refine sp_e' (fun h => ?_) (fun h => ?_)) <;> first | contradiction | (subst h; conv => whnf) | (conv => whnf))
    | ((with_reducible refine sp_n (fun h => ?_) (fun h => ?_)) <;> first | contradiction | (subst h; conv => whnf) | (conv => whnf))
    | ((with_reducible refine sp_n' (fun h => ?_) (fun h => ?_)) <;> first | contradiction | (subst h; conv => whnf) | (conv => whnf))
    | ((with_reducible refine sp_nb (fun h => ?_) (fun h => ?_)) <;> first | contradiction | (exact Bool.noConfusion (Eq.trans (Eq.symm h) (show _ = true by assumption))) | (exact Bool.noConfusion (Eq.trans (Eq.symm (show _ = false by assumption)) h)) | (conv => whnf))
    | ((with_reducible refine sp_nb' (fun h => ?_) (fun h => ?_)) <;> first | contradiction | (exact Bool.noConfusion (Eq.trans (Eq.symm h) (show _ = true by assumption))) | (exact Bool.noConfusion (Eq.trans (Eq.symm (show _ = false by assumption)) h)) | (conv => whnf))
    | ((with_reducible refine sp_b (fun h => ?_) (fun h => ?_)) <;> first | contradiction | (exact Bool.noConfusion (Eq.trans (Eq.symm h) (show _ = true by assumption))) | (exact Bool.noConfusion (Eq.trans (Eq.symm (show _ = false by assumption)) h)) | (conv => whnf))
    | ((with_reducible refine sp_b' (fun h => ?_) (fun h => ?_)) <;> first | contradiction | (exact Bool.noConfusion (Eq.trans (Eq.symm h) (show _ = true by assumption))) | (exact Bool.noConfusion (Eq.trans (Eq.symm (show _ = false by assumption)) h)) | (conv => whnf))
    | (refine ⟨(rfl : nodupB _ = true), rfl, ?_⟩; conv => whnf)
    | (with_reducible refine bnd2 ?_ ?_)
    | (with_reducible refine bnd2' ?_ ?_)
    | (with_reducible refine bndN ?_ ?_)
    | ((with_reducible refine and_of ?_ ?_); conv => whnf)
    | ((with_reducible refine fcI (g := 79) ?_); refine ⟨_, _, lf_toInsS (hl := ?_) .., rfl, fun res B hRB => ?_⟩; rotate_right; obtain ⟨rfl, rfl⟩ := hRB; conv => whnf)
    | ((with_reducible show Exists _); refine Exists.intro _ (And.intro (l_toInsS (hl := ?_) ..) (And.intro rfl ?_)); rotate_right; conv => whnf)
    | ((with_reducible show awpOps _ _ _ _ _ _); conv => whnf)
    | (intro h; conv => whnf))
  all_goals (repeat (clear hK; clear K1))
  all_goals first
      | rfl
      | assumption
      | exact Bool.noConfusion (h.symm.trans hp)
      | (simp_all []; done)
      | grind []
      | (simp_all []; omega)
set_option maxRecDepth 100000 in
theorem lm_markProgramS0 (k : Int) : CallsV Try.prog 70 [.dat (.seq .progs []), .dat (.i k)] (.dat (.i k)) := by
  refine CallsV.of_awp tauOk mixOk Try.func70 rfl rfl rfl ?_
  conv => whnf
  repeat' (first
    | ((with_reducible refine Alt.l ?_); conv => whnf)
    | ((with_reducible refine fun (K1 : AX → AState → Prop) hK => ?_); conv => whnf)
    | ((with_reducible show K1 _ _); subst hK; conv => whnf)
    | (with_reducible exact rfl)
    | ((with_reducible refine sp_T ?_); conv => whnf)
    | ((with_reducible refine sp_F ?_); conv => whnf)
    | ((with_reducible refine sp_T' ?_); conv => whnf)
    | ((with_reducible refine sp_F' ?_); conv => whnf)
    | ((with_reducible refine sp_dF ?_ ?_); decide; conv => whnf)
    | ((with_reducible refine sp_dT ?_ ?_); decide; conv => whnf)
    | ((with_reducible refine sp_d (fun h => ?_) (fun h => ?_)) <;> first | contradiction | (subst h; conv => whnf) | (conv => whnf))
    | ((with_reducible refine sp_d' (fun h => ?_) (fun h => ?_)) <;> first | contradiction | (subst h; conv => whnf) | (conv => whnf))
    | ((with_reducible refine sp_eF ?_ ?_); decide; conv => whnf)
    | ((with_reducible refine sp_eT ?_); conv => whnf)
    | ((with_reducible refine sp_e (fun h => ?_) (fun h => ?_)) <;> first | contradiction | (subst h; conv => whnf) | (conv => whnf))
    | ((with_reducible refine sp_e' (fun h => ?_) (fun h => ?_)) <;> first | contradiction | (subst h; conv => whnf) | (conv => whnf))
    | ((with_reducible refine sp_n (fun h => ?_) (fun h => ?_)) <;> first | contradiction | (subst h; conv => whnf) | (conv => whnf))
    | ((with_reducible refine sp_n' (fun h => ?_) (fun h => ?_)) <;> first | contradiction | (subst h; conv => whnf) | (conv => whnf))
    | ((with_reducible refine sp_nb (fun h => ?_) (fun h => ?_)) <;> first | contradiction | (exact Bool.noConfusion (Eq.trans (Eq.symm h) (show _ = true by assumption))) | (exact Bool.noConfusion (Eq.trans (Eq.symm (show _ = false by assumption)) h)) | (conv => whnf))
    | ((with_reducible refine sp_nb' (fun h => ?_) (fun h => ?_)) <;> first | contradiction | (exact Bool.noConfusion (Eq.trans (Eq.symm h) (show _ = true by assumption))) | (exact Bool.noConfusion (Eq.trans (Eq.symm (show _ = false by assumption)) h)) | (conv => whnf))
    | ((with_reducible refine sp_b (fun h => ?_) (fun h => ?_)) <;> first | contradiction | (exact Bool.noConfusion (Eq.trans (Eq.symm h) (show _ = true by assumption))) | (exact Bool.noConfusion (Eq.trans (Eq.symm (show _ = false by assumption)) h)) | (conv => whnf))
    | ((with_reducible refine sp_b' (fun h => ?_) (fun h => ?_)) <;> first | contradiction | (exact Bool.noConfusion (Eq.trans (Eq.symm h) (show _ = true by assumption))) | (exact Bool.noConfusion (Eq.trans (Eq.symm (show _ = false by assumption)) h)) | (conv => whnf))
    | (refine ⟨(rfl : nodupB _ = true), rfl, ?_⟩; conv => whnf)
    | (with_reducible refine bnd2 ?_ ?_)
    | (with_reducible refine bnd2' ?_ ?_)
    | (with_reducible refine bndN ?_ ?_)
    | ((with_reducible refine and_of ?_ ?_); conv => whnf)
    | (refine Exists.intro (Unit) (Exists.intro (fun _ => mkS Try.f70.ntmps [(0, .dat (.seq .progs [])), (1, .dat (.i k)), (5, .dat (.i 0))] []) (Exists.intro (fun _ => 0) (Exists.intro () (And.intro (SubP.sub (σ := []) ⟨⟨rfl, rfl, rfl⟩, ⟨(wk_dat ?_), (wk_dat ?_), (wk_dat ?_), trivial⟩, trivial⟩) (fun _ => ?_))))); rotate_right; conv => whnf)
    | (refine Exists.intro () (And.intro ?_ (SubP.sub (σ := []) ⟨⟨rfl, rfl, rfl⟩, ⟨(wk_dat ?_), (wk_dat ?_), (wk_dat ?_), trivial⟩, trivial⟩)))
    | ((with_reducible refine gcI (g := 87) ?_); refine ⟨_, _, g_markInsS (h0 := ?_) (h1 := ?_) (hl := ?_) .., fun res B hRB => ?_⟩; rotate_right; obtain ⟨rfl, rfl⟩ := hRB; conv => whnf)
    | ((with_reducible refine pcI (g := 87) ?_); refine ⟨_, g_markInsS0 .., rfl, ?_⟩; rotate_right; conv => whnf)
    | ((with_reducible show Exists _); refine Exists.intro _ (And.intro (g_markInsS0 ..) (And.intro rfl ?_)); rotate_right; conv => whnf)
    | ((with_reducible show awpOps _ _ _ _ _ _); conv => whnf)
    | (intro h; conv => whnf))
  all_goals (repeat (clear hK; clear K1))
  all_goals first
    | rfl
    | assumption
    | exact Bool.noConfusion (h.symm.trans hp)
    | omega
    | (dsimp only; omega)
    | exact congrArg (Dat.int .i64) (wrap_succ (by assumption) (by assumption)).symm
set_option maxRecDepth 100000 in
theorem lm_heldProgramS0 (k : Int) : CallsV Try.prog 71 [.dat (.seq .progs []), .dat (.i k)] (.dat (.i k)) := by
  refine CallsV.of_awp tauOk mixOk Try.func71 rfl rfl rfl ?_
  conv => whnf
  repeat' (first
    | ((with_reducible refine Alt.l ?_); conv => whnf)
    | ((with_reducible refine fun (K1 : AX → AState → Prop) hK => ?_); conv => whnf)
    | ((with_reducible show K1 _ _); subst hK; conv => whnf)
    | (with_reducible exact rfl)
    | ((with_reducible refine sp_T ?_); conv => whnf)
    | ((with_reducible refine sp_F ?_); conv => whnf)
    | ((with_reducible refine sp_T' ?_); conv => whnf)
    | ((with_reducible refine sp_F' ?_); conv => whnf)
    | ((with_reducible refine sp_dF ?_ ?_); decide; conv => whnf)
    | ((with_reducible refine sp_dT ?_ ?_); decide; conv => whnf)
    | ((with_reducible refine sp_d (fun h => ?_) (fun h => ?_)) <;> first | contradiction | (subst h; conv => whnf) | (conv => whnf))
    | ((with_reducible refine sp_d' (fun h => ?_) (fun h => ?_)) <;> first | contradiction | (subst h; conv => whnf) | (conv => whnf))
    | ((with_reducible refine sp_eF ?_ ?_); decide; conv => whnf)
    | ((with_reducible refine sp_eT ?_); conv => whnf)
    | ((with_reducible refine sp_e (fun h => ?_) (fun h => ?_)) <;> first | contradiction | (subst h; conv => whnf) | (conv => whnf))
    | ((with_reducible refine sp_e' (fun h => ?_) (fun h => ?_)) <;> first | contradiction | (subst h; conv => whnf) | (conv => whnf))
    | ((with_reducible refine sp_n (fun h => ?_) (fun h => ?_)) <;> first | contradiction | (subst h; conv => whnf) | (conv => whnf))
    | ((with_reducible refine sp_n' (fun h => ?_) (fun h => ?_)) <;> first | contradiction | (subst h; conv => whnf) | (conv => whnf))
    | ((with_reducible refine sp_nb (fun h => ?_) (fun h => ?_)) <;> first | contradiction | (exact Bool.noConfusion (Eq.trans (Eq.symm h) (show _ = true by assumption))) | (exact Bool.noConfusion (Eq.trans (Eq.symm (show _ = false by assumption)) h)) | (conv => whnf))
    | ((with_reducible refine sp_nb' (fun h => ?_) (fun h => ?_)) <;> first | contradiction | (exact Bool.noConfusion (Eq.trans (Eq.symm h) (show _ = true by assumption))) | (exact Bool.noConfusion (Eq.trans (Eq.symm (show _ = false by assumption)) h)) | (conv => whnf))
    | ((with_reducible refine sp_b (fun h => ?_) (fun h => ?_)) <;> first | contradiction | (exact Bool.noConfusion (Eq.trans (Eq.symm h) (show _ = true by assumption))) | (exact Bool.noConfusion (Eq.trans (Eq.symm (show _ = false by assumption)) h)) | (conv => whnf))
    | ((with_reducible refine sp_b' (fun h => ?_) (fun h => ?_)) <;> first | contradiction | (exact Bool.noConfusion (Eq.trans (Eq.symm h) (show _ = true by assumption))) | (exact Bool.noConfusion (Eq.trans (Eq.symm (show _ = false by assumption)) h)) | (conv => whnf))
    | (refine ⟨(rfl : nodupB _ = true), rfl, ?_⟩; conv => whnf)
    | (with_reducible refine bnd2 ?_ ?_)
    | (with_reducible refine bnd2' ?_ ?_)
    | (with_reducible refine bndN ?_ ?_)
    | ((with_reducible refine and_of ?_ ?_); conv => whnf)
    | (refine Exists.intro (Unit) (Exists.intro (fun _ => mkS Try.f71.ntmps [(0, .dat (.seq .progs [])), (1, .dat (.i k)), (5, .dat (.i 0))] []) (Exists.intro (fun _ => 0) (Exists.intro () (And.intro (SubP.sub (σ := []) ⟨⟨rfl, rfl, rfl⟩, ⟨(wk_dat ?_), (wk_dat ?_), (wk_dat ?_), trivial⟩, trivial⟩) (fun _ => ?_))))); rotate_right; conv => whnf)
    | (refine Exists.intro () (And.intro ?_ (SubP.sub (σ := []) ⟨⟨rfl, rfl, rfl⟩, ⟨(wk_dat ?_), (wk_dat ?_), (wk_dat ?_), trivial⟩, trivial⟩)))
    | ((with_reducible refine pcI (g := 128) ?_); refine ⟨_, l_heldInsS (h0 := ?_) (h1 := ?_) (hl := ?_) .., rfl, ?_⟩; rotate_right; conv => whnf)
    | ((with_reducible show Exists _); refine Exists.intro _ (And.intro (l_heldInsS (h0 := ?_) (h1 := ?_) (hl := ?_) ..) (And.intro rfl ?_)); rotate_right; conv => whnf)
    | ((with_reducible refine pcI (g := 128) ?_); refine ⟨_, lh_heldInsS (hc := ?_) (h0 := ?_) (h1 := ?_) (hl := ?_) .., rfl, ?_⟩; rotate_right; conv => whnf)
    | ((with_reducible show Exists _); refine Exists.intro _ (And.intro (lh_heldInsS (hc := ?_) (h0 := ?_) (h1 := ?_) (hl := ?_) ..) (And.intro rfl ?_)); rotate_right; conv => whnf)
    | ((with_reducible show awpOps _ _ _ _ _ _); conv => whnf)
    | (intro h; conv => whnf))
  all_goals (repeat (clear hK; clear K1))
  all_goals first
    | rfl
    | assumption
    | exact Bool.noConfusion (h.symm.trans hp)
    | omega
    | (dsimp only; omega)
    | exact congrArg (Dat.int .i64) (wrap_succ (by assumption) (by assumption)).symm
set_option maxHeartbeats 2000000 in
set_option maxRecDepth 100000 in
theorem law_MutantsOf1 (w mem inn : Int) (c : List V.Ins) (hp : progP ⟨w, mem, inn, c⟩ = true) : CallsV Try.prog 12 [.agg [.dat (.i w), .dat (.i mem), .dat (.i inn), .dat (.seq .inss c)]] (.dat (.bool true)) := by
  refine CallsV.of_awp tauOk mixOk Try.func12 rfl rfl rfl ?_
  conv => whnf
  repeat' (first
    | ((with_reducible refine Alt.l ?_); conv => whnf)
    | ((with_reducible refine fun (K1 : AX → AState → Prop) hK => ?_); conv => whnf)
    | ((with_reducible show K1 _ _); subst hK; conv => whnf)
    | (with_reducible exact rfl)
    | ((with_reducible refine sp_T ?_); conv => whnf)
    | ((with_reducible refine sp_F ?_); conv => whnf)
    | ((with_reducible refine sp_T' ?_); conv => whnf)
    | ((with_reducible refine sp_F' ?_); conv => whnf)
    | ((with_reducible refine sp_dF ?_ ?_); decide; conv => whnf)
    | ((with_reducible refine sp_dT ?_ ?_); decide; conv => whnf)
    | ((with_reducible refine sp_d (fun h => ?_) (fun h => ?_)) <;> first | contradiction | (subst h; conv => whnf) | (conv => whnf))
    | ((with_reducible refine sp_d' (fun h => ?_) (fun h => ?_)) <;> first | contradiction | (subst h; conv => whnf) | (conv => whnf))
    | ((with_reducible refine sp_eF ?_ ?_); decide; conv => whnf)
    | ((with_reducible refine sp_eT ?_); conv => whnf)
    | ((with_reducible refine sp_e (fun h => ?_) (fun h => ?_)) <;> first | contradiction | (subst h; conv => whnf) | (conv => whnf))
    | ((with_reducible refine sp_e' (fun h => ?_) (fun h => ?_)) <;> first | contradiction | (subst h; conv => whnf) | (conv => whnf))
    | ((with_reducible refine sp_n (fun h => ?_) (fun h => ?_)) <;> first | contradiction | (subst h; conv => whnf) | (conv => whnf))
    | ((with_reducible refine sp_n' (fun h => ?_) (fun h => ?_)) <;> first | contradiction | (subst h; conv => whnf) | (conv => whnf))
    | ((with_reducible refine sp_nb (fun h => ?_) (fun h => ?_)) <;> first | contradiction | (exact Bool.noConfusion (Eq.trans (Eq.symm h) (show _ = true by assumption))) | (exact Bool.noConfusion (Eq.trans (Eq.symm (show _ = false by assumption)) h)) | (conv => whnf))
    | ((with_reducible refine sp_nb' (fun h => ?_) (fun h => ?_)) <;> first | contradiction | (exact Bool.noConfusion (Eq.trans (Eq.symm h) (show _ = true by assumption))) | (exact Bool.noConfusion (Eq.trans (Eq.symm (show _ = false by assumption)) h)) | (conv => whnf))
    | ((with_reducible refine sp_b (fun h => ?_) (fun h => ?_)) <;> first | contradiction | (exact Bool.noConfusion (Eq.trans (Eq.symm h) (show _ = true by assumption))) | (exact Bool.noConfusion (Eq.trans (Eq.symm (show _ = false by assumption)) h)) | (conv => whnf))
    | ((with_reducible refine sp_b' (fun h => ?_) (fun h => ?_)) <;> first | contradiction | (exact Bool.noConfusion (Eq.trans (Eq.symm h) (show _ = true by assumption))) | (exact Bool.noConfusion (Eq.trans (Eq.symm (show _ = false by assumption)) h)) | (conv => whnf))
    | (refine ⟨(rfl : nodupB _ = true), rfl, ?_⟩; conv => whnf)
    | (with_reducible refine bnd2 ?_ ?_)
    | (with_reducible refine bnd2' ?_ ?_)
    | (with_reducible refine bndN ?_ ?_)
    | ((with_reducible refine and_of ?_ ?_); conv => whnf)
    | ((with_reducible refine pcI (g := 15) ?_); refine ⟨_, l_szProgram (h0 := ?_) (h1 := ?_) .., rfl, ?_⟩; rotate_right; conv => whnf)
    | ((with_reducible show Exists _); refine Exists.intro _ (And.intro (l_szProgram (h0 := ?_) (h1 := ?_) ..) (And.intro rfl ?_)); rotate_right; conv => whnf)
    | ((with_reducible show Exists _); refine Exists.intro _ (And.intro (s_MutantsOf (hp := by assumption) ..) (And.intro rfl ?_)); rotate_right; conv => whnf)
    | ((with_reducible show Exists _); refine Exists.intro _ (And.intro (s_MutantsOf0 (hp := by assumption) ..) (And.intro rfl ?_)); rotate_right; conv => whnf)
    | ((with_reducible refine pcI (g := 49) ?_); refine ⟨_, sv_MutantsOf .., rfl, ?_⟩; rotate_right; conv => whnf)
    | ((with_reducible show Exists _); refine Exists.intro _ (And.intro (sv_MutantsOf ..) (And.intro rfl ?_)); rotate_right; conv => whnf)
    | ((with_reducible refine fcI (g := 49) ?_); refine ⟨_, _, st_MutantsOf (hp := by assumption) .., rfl, fun res B hRB => ?_⟩; rotate_right; obtain ⟨rfl, rfl⟩ := hRB; conv => whnf)
    | ((with_reducible show Exists _); refine Exists.intro _ (And.intro (l_toProgram (hl := ?_) ..) (And.intro rfl ?_)); rotate_right; conv => whnf)
    | ((with_reducible refine fcI (g := 18) ?_); refine ⟨_, _, lk_toProgram (hl := ?_) .., rfl, fun res B hRB => ?_⟩; rotate_right; obtain ⟨rfl, rfl⟩ := hRB; conv => whnf)
    | ((with_reducible refine fcI (g := 18) ?_); refine ⟨_, _, lm_toProgram (hl := ?_) .., rfl, fun res B hRB => ?_⟩; rotate_right; obtain ⟨rfl, rfl⟩ := hRB; conv => whnf)
    | ((with_reducible show Exists _); refine Exists.intro _ (And.intro (i_MutantsOf (hp := by assumption) ..) (And.intro rfl ?_)); rotate_right; conv => whnf)
    | ((with_reducible show Exists _); refine Exists.intro _ (And.intro (i_MutantsOf0 (hp := by assumption) ..) (And.intro rfl ?_)); rotate_right; conv => whnf)
    | ((with_reducible refine pcI (g := 48) ?_); refine ⟨_, iv_MutantsOf .., rfl, ?_⟩; rotate_right; conv => whnf)
    | ((with_reducible show Exists _); refine Exists.intro _ (And.intro (iv_MutantsOf ..) (And.intro rfl ?_)); rotate_right; conv => whnf)
    | ((with_reducible refine fcI (g := 48) ?_); refine ⟨_, _, it_MutantsOf (hp := by assumption) .., rfl, fun res B hRB => ?_⟩; rotate_right; obtain ⟨rfl, rfl⟩ := hRB; conv => whnf)
    | ((with_reducible refine pcI (g := 69) ?_); refine ⟨_, l_l_eqProgramS .., rfl, ?_⟩; rotate_right; conv => whnf)
    | ((with_reducible show Exists _); refine Exists.intro _ (And.intro (l_l_eqProgramS ..) (And.intro rfl ?_)); rotate_right; conv => whnf)
    | ((with_reducible refine pcI (g := 21) ?_); refine ⟨_, l_eqProgram .., rfl, ?_⟩; rotate_right; conv => whnf)
    | ((with_reducible show Exists _); refine Exists.intro _ (And.intro (l_eqProgram ..) (And.intro rfl ?_)); rotate_right; conv => whnf)
    | ((with_reducible refine gcI (g := 26) ?_); refine ⟨_, _, g_markProgram (h0 := ?_) (h1 := ?_) (hl := ?_) .., fun res B hRB => ?_⟩; rotate_right; obtain ⟨rfl, rfl⟩ := hRB; conv => whnf)
    | ((with_reducible refine gcI (g := 70) ?_); refine ⟨_, _, g_markProgramS (h0 := ?_) (h1 := ?_) (hl := ?_) .., fun res B hRB => ?_⟩; rotate_right; obtain ⟨rfl, rfl⟩ := hRB; conv => whnf)
    | ((with_reducible show Exists _); refine Exists.intro _ (And.intro (lm_markProgramS0 ..) (And.intro rfl ?_)); rotate_right; conv => whnf)
    | ((with_reducible refine pcI (g := 71) ?_); refine ⟨_, l_heldProgramS (h0 := ?_) (h1 := ?_) (hl := ?_) .., rfl, ?_⟩; rotate_right; conv => whnf)
    | ((with_reducible show Exists _); refine Exists.intro _ (And.intro (l_heldProgramS (h0 := ?_) (h1 := ?_) (hl := ?_) ..) (And.intro rfl ?_)); rotate_right; conv => whnf)
    | ((with_reducible show Exists _); refine Exists.intro _ (And.intro (lm_heldProgramS0 ..) (And.intro rfl ?_)); rotate_right; conv => whnf)
    | ((with_reducible show awpOps _ _ _ _ _ _); conv => whnf)
    | (intro h; conv => whnf))
  all_goals (repeat (clear hK; clear K1))
  all_goals first
    | decide
    | (with_reducible assumption)
    | (have h1 := smL_1 (n := c.length) (by with_reducible assumption); with_reducible exact h1)
    | (with_reducible exact muts_off hp)
    | (have h1 := smL_1 (n := c.length) (by with_reducible assumption); have h2 := muts_off hp; omega)
    | (with_reducible exact absurd rfl h)
    | (simp at h; done)
    | skip
set_option maxHeartbeats 2000000 in
set_option maxRecDepth 100000 in
theorem law_MutantsOf0 (w mem inn : Int) (c : List V.Ins) (hp : progP ⟨w, mem, inn, c⟩ = false) : CallsV Try.prog 12 [.agg [.dat (.i w), .dat (.i mem), .dat (.i inn), .dat (.seq .inss c)]] (.dat (.bool true)) := by
  refine CallsV.of_awp tauOk mixOk Try.func12 rfl rfl rfl ?_
  conv => whnf
  repeat' (first
    | ((with_reducible refine Alt.l ?_); conv => whnf)
    | ((with_reducible refine fun (K1 : AX → AState → Prop) hK => ?_); conv => whnf)
    | ((with_reducible show K1 _ _); subst hK; conv => whnf)
    | (with_reducible exact rfl)
    | ((with_reducible refine sp_T ?_); conv => whnf)
    | ((with_reducible refine sp_F ?_); conv => whnf)
    | ((with_reducible refine sp_T' ?_); conv => whnf)
    | ((with_reducible refine sp_F' ?_); conv => whnf)
    | ((with_reducible refine sp_dF ?_ ?_); decide; conv => whnf)
    | ((with_reducible refine sp_dT ?_ ?_); decide; conv => whnf)
    | ((with_reducible refine sp_d (fun h => ?_) (fun h => ?_)) <;> first | contradiction | (subst h; conv => whnf) | (conv => whnf))
    | ((with_reducible refine sp_d' (fun h => ?_) (fun h => ?_)) <;> first | contradiction | (subst h; conv => whnf) | (conv => whnf))
    | ((with_reducible refine sp_eF ?_ ?_); decide; conv => whnf)
    | ((with_reducible refine sp_eT ?_); conv => whnf)
    | ((with_reducible refine sp_e (fun h => ?_) (fun h => ?_)) <;> first | contradiction | (subst h; conv => whnf) | (conv => whnf))
    | ((with_reducible refine sp_e' (fun h => ?_) (fun h => ?_)) <;> first | contradiction | (subst h; conv => whnf) | (conv => whnf))
    | ((with_reducible refine sp_n (fun h => ?_) (fun h => ?_)) <;> first | contradiction | (subst h; conv => whnf) | (conv => whnf))
    | ((with_reducible refine sp_n' (fun h => ?_) (fun h => ?_)) <;> first | contradiction | (subst h; conv => whnf) | (conv => whnf))
    | ((with_reducible refine sp_nb (fun h => ?_) (fun h => ?_)) <;> first | contradiction | (exact Bool.noConfusion (Eq.trans (Eq.symm h) (show _ = true by assumption))) | (exact Bool.noConfusion (Eq.trans (Eq.symm (show _ = false by assumption)) h)) | (conv => whnf))
    | ((with_reducible refine sp_nb' (fun h => ?_) (fun h => ?_)) <;> first | contradiction | (exact Bool.noConfusion (Eq.trans (Eq.symm h) (show _ = true by assumption))) | (exact Bool.noConfusion (Eq.trans (Eq.symm (show _ = false by assumption)) h)) | (conv => whnf))
    | ((with_reducible refine sp_b (fun h => ?_) (fun h => ?_)) <;> first | contradiction | (exact Bool.noConfusion (Eq.trans (Eq.symm h) (show _ = true by assumption))) | (exact Bool.noConfusion (Eq.trans (Eq.symm (show _ = false by assumption)) h)) | (conv => whnf))
    | ((with_reducible refine sp_b' (fun h => ?_) (fun h => ?_)) <;> first | contradiction | (exact Bool.noConfusion (Eq.trans (Eq.symm h) (show _ = true by assumption))) | (exact Bool.noConfusion (Eq.trans (Eq.symm (show _ = false by assumption)) h)) | (conv => whnf))
    | (refine ⟨(rfl : nodupB _ = true), rfl, ?_⟩; conv => whnf)
    | (with_reducible refine bnd2 ?_ ?_)
    | (with_reducible refine bnd2' ?_ ?_)
    | (with_reducible refine bndN ?_ ?_)
    | ((with_reducible refine and_of ?_ ?_); conv => whnf)
    | ((with_reducible refine pcI (g := 15) ?_); refine ⟨_, l_szProgram (h0 := ?_) (h1 := ?_) .., rfl, ?_⟩; rotate_right; conv => whnf)
    | ((with_reducible show Exists _); refine Exists.intro _ (And.intro (l_szProgram (h0 := ?_) (h1 := ?_) ..) (And.intro rfl ?_)); rotate_right; conv => whnf)
    | ((with_reducible show Exists _); refine Exists.intro _ (And.intro (s_MutantsOf (hp := by assumption) ..) (And.intro rfl ?_)); rotate_right; conv => whnf)
    | ((with_reducible refine pcI (g := 49) ?_); refine ⟨_, s_MutantsOf0 (hp := by assumption) .., rfl, ?_⟩; rotate_right; conv => whnf)
    | ((with_reducible show Exists _); refine Exists.intro _ (And.intro (s_MutantsOf0 (hp := by assumption) ..) (And.intro rfl ?_)); rotate_right; conv => whnf)
    | ((with_reducible refine pcI (g := 49) ?_); refine ⟨_, sv_MutantsOf .., rfl, ?_⟩; rotate_right; conv => whnf)
    | ((with_reducible show Exists _); refine Exists.intro _ (And.intro (sv_MutantsOf ..) (And.intro rfl ?_)); rotate_right; conv => whnf)
    | ((with_reducible show Exists _); refine Exists.intro _ (And.intro (l_toProgram (hl := ?_) ..) (And.intro rfl ?_)); rotate_right; conv => whnf)
    | ((with_reducible refine fcI (g := 18) ?_); refine ⟨_, _, lk_toProgram (hl := ?_) .., rfl, fun res B hRB => ?_⟩; rotate_right; obtain ⟨rfl, rfl⟩ := hRB; conv => whnf)
    | ((with_reducible refine fcI (g := 18) ?_); refine ⟨_, _, lm_toProgram (hl := ?_) .., rfl, fun res B hRB => ?_⟩; rotate_right; obtain ⟨rfl, rfl⟩ := hRB; conv => whnf)
    | ((with_reducible show Exists _); refine Exists.intro _ (And.intro (i_MutantsOf (hp := by assumption) ..) (And.intro rfl ?_)); rotate_right; conv => whnf)
    | ((with_reducible refine pcI (g := 48) ?_); refine ⟨_, i_MutantsOf0 (hp := by assumption) .., rfl, ?_⟩; rotate_right; conv => whnf)
    | ((with_reducible show Exists _); refine Exists.intro _ (And.intro (i_MutantsOf0 (hp := by assumption) ..) (And.intro rfl ?_)); rotate_right; conv => whnf)
    | ((with_reducible refine pcI (g := 48) ?_); refine ⟨_, iv_MutantsOf .., rfl, ?_⟩; rotate_right; conv => whnf)
    | ((with_reducible show Exists _); refine Exists.intro _ (And.intro (iv_MutantsOf ..) (And.intro rfl ?_)); rotate_right; conv => whnf)
    | ((with_reducible refine pcI (g := 69) ?_); refine ⟨_, l_l_eqProgramS .., rfl, ?_⟩; rotate_right; conv => whnf)
    | ((with_reducible show Exists _); refine Exists.intro _ (And.intro (l_l_eqProgramS ..) (And.intro rfl ?_)); rotate_right; conv => whnf)
    | ((with_reducible refine pcI (g := 21) ?_); refine ⟨_, l_eqProgram .., rfl, ?_⟩; rotate_right; conv => whnf)
    | ((with_reducible show Exists _); refine Exists.intro _ (And.intro (l_eqProgram ..) (And.intro rfl ?_)); rotate_right; conv => whnf)
    | ((with_reducible refine gcI (g := 26) ?_); refine ⟨_, _, g_markProgram (h0 := ?_) (h1 := ?_) (hl := ?_) .., fun res B hRB => ?_⟩; rotate_right; obtain ⟨rfl, rfl⟩ := hRB; conv => whnf)
    | ((with_reducible refine gcI (g := 70) ?_); refine ⟨_, _, g_markProgramS (h0 := ?_) (h1 := ?_) (hl := ?_) .., fun res B hRB => ?_⟩; rotate_right; obtain ⟨rfl, rfl⟩ := hRB; conv => whnf)
    | ((with_reducible refine pcI (g := 70) ?_); refine ⟨_, lm_markProgramS0 .., rfl, ?_⟩; rotate_right; conv => whnf)
    | ((with_reducible show Exists _); refine Exists.intro _ (And.intro (lm_markProgramS0 ..) (And.intro rfl ?_)); rotate_right; conv => whnf)
    | ((with_reducible refine pcI (g := 71) ?_); refine ⟨_, l_heldProgramS (h0 := ?_) (h1 := ?_) (hl := ?_) .., rfl, ?_⟩; rotate_right; conv => whnf)
    | ((with_reducible show Exists _); refine Exists.intro _ (And.intro (l_heldProgramS (h0 := ?_) (h1 := ?_) (hl := ?_) ..) (And.intro rfl ?_)); rotate_right; conv => whnf)
    | ((with_reducible refine pcI (g := 71) ?_); refine ⟨_, lm_heldProgramS0 .., rfl, ?_⟩; rotate_right; conv => whnf)
    | ((with_reducible show Exists _); refine Exists.intro _ (And.intro (lm_heldProgramS0 ..) (And.intro rfl ?_)); rotate_right; conv => whnf)
    | ((with_reducible show awpOps _ _ _ _ _ _); conv => whnf)
    | (intro h; conv => whnf))
  all_goals (repeat (clear hK; clear K1))
  all_goals first
    | decide
    | (with_reducible assumption)
    | (have h1 := smL_1 (n := c.length) (by with_reducible assumption); with_reducible exact h1)
    | (have h1 := smL_1 (n := c.length) (by with_reducible assumption); omega)
    | (with_reducible exact absurd rfl h)
    | (simp at h; done)
    | skip
theorem law_MutantsOf (w mem inn : Int) (c : List V.Ins) : CallsV Try.prog 12 [.agg [.dat (.i w), .dat (.i mem), .dat (.i inn), .dat (.seq .inss c)]] (.dat (.bool true)) := by
  cases hp : progP ⟨w, mem, inn, c⟩ with
  | true => exact law_MutantsOf1 w mem inn c hp
  | false => exact law_MutantsOf0 w mem inn c hp
end Vg
