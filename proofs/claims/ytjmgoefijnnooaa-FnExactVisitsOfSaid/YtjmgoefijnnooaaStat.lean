/- States: contracts of the law's helpers and of StateOk. Condition: lists are no longer than the law lets through. -/
import Derived.Test.YtjmgoefijnnooaaTMark
import Derived.Test.YtjmgoefijnnooaaFHolds
namespace Vg
open Go Go.Proofs
def stateP (p : V.Prog) (s : V.State) : Bool :=
  (progP p && (decide (s.stack.length ≤ 3) && decide (s.out.length ≤ 6))) && (s.stack.all (fun x => inP x 0 p.code.length) && (inP s.pc 0 p.code.length && ((s.regs.all (fun x => wordP p.w x) && (s.regs.length == (4 : Int))) &&
    ((s.mem.all (fun x => wordP p.w x) && (s.mem.length == p.mem)) && (inP s.inn 0 p.inn && (s.out.all (fun x => wordP p.w x) && (inP s.code 0 8 && inP s.steps 0 400)))))))
set_option maxRecDepth 100000 in
theorem i_isPlace (w mem inn : Int) (c : List V.Ins) (n : Int) : CallsV Try.prog 93 [.agg [.dat (.i w), .dat (.i mem), .dat (.i inn), .dat (.seq .inss c)], .dat (.i n)] (.dat (.bool (inP n 0 c.length))) := by
  refine CallsV.of_awp tauOk mixOk Try.func93 rfl rfl rfl ?_
  conv => whnf
  repeat' (first
    | ((with_reducible refine Alt.l ?_); conv => whnf)
    | ((with_reducible refine fun (K1 : AX → AState → Prop) hK => ?_); conv => whnf)
    | ((with_reducible show K1 _ _); subst hK; conv => whnf)
    | (with_reducible exact rfl)
    | ((with_reducible refine sp_T ?_); conv => whnf)
    | ((with_reducible refine sp_F ?_); conv => whnf)
    | ((with_reducible refine sp_T' ?_); conv => whnf)
    | ((with_reducible refine sp_F' ?_); conv => whnf)
    | ((with_reducible refine sp_dF ?_ ?_); decide; conv => whnf)
    | ((with_reducible refine sp_dT ?_ ?_); decide; conv => whnf)
    | ((with_reducible refine sp_d (fun h => ?_) (fun h => ?_)) <;> first | contradiction | (subst h; conv => whnf) | (conv => whnf))
    | ((with_reducible refine sp_d' (fun h => ?_) (fun h => ?_)) <;> first | contradiction | (subst h; conv => whnf) | (conv => whnf))
    | ((with_reducible refine sp_eF ?_ ?_); decide; conv => whnf)
    | ((with_reducible refine sp_eT ?_); conv => whnf)
    | ((with_reducible refine sp_e (fun h => ?_) (fun h => ?_)) <;> first | contradiction | (subst h; conv => whnf) | (conv => whnf))
    | ((with_reducible refine sp_e' (fun h => ?_) (fun h => ?_)) <;> first | contradiction | (subst h; conv => whnf) | (conv => whnf))
    | ((with_reducible refine sp_n (fun h => ?_) (fun h => ?_)) <;> first | contradiction | (subst h; conv => whnf) | (conv => whnf))
    | ((with_reducible refine sp_n' (fun h => ?_) (fun h => ?_)) <;> first | contradiction | (subst h; conv => whnf) | (conv => whnf))
    | ((with_reducible refine sp_nb (fun h => ?_) (fun h => ?_)) <;> first | contradiction | (exact Bool.noConfusion (Eq.trans (Eq.symm h) (show _ = true by assumption))) | (exact Bool.noConfusion (Eq.trans (Eq.symm (show _ = false by assumption)) h)) | (conv => whnf))
    | ((with_reducible refine sp_nb' (fun h => ?_) (fun h => ?_)) <;> first | contradiction | (exact Bool.noConfusion (Eq.trans (Eq.symm h) (show _ = true by assumption))) | (exact Bool.noConfusion (Eq.trans (Eq.symm (show _ = false by assumption)) h)) | (conv => whnf))
    | ((with_reducible refine sp_b (fun h => ?_) (fun h => ?_)) <;> first | contradiction | (exact Bool.noConfusion (Eq.trans (Eq.symm h) (show _ = true by assumption))) | (exact Bool.noConfusion (Eq.trans (Eq.symm (show _ = false by assumption)) h)) | (conv => whnf))
    | ((with_reducible refine sp_b' (fun h => ?_) (fun h => ?_)) <;> first | contradiction | (exact Bool.noConfusion (Eq.trans (Eq.symm h) (show _ = true by assumption))) | (exact Bool.noConfusion (Eq.trans (Eq.symm (show _ = false by assumption)) h)) | (conv => whnf))
    | (refine ⟨(rfl : nodupB _ = true), rfl, ?_⟩; conv => whnf)
    | (with_reducible refine bnd2 ?_ ?_)
    | (with_reducible refine bnd2' ?_ ?_)
    | (with_reducible refine bndN ?_ ?_)
    | ((with_reducible refine and_of ?_ ?_); conv => whnf)
    | ((with_reducible show awpOps _ _ _ _ _ _); conv => whnf)
    | (intro h; conv => whnf))
  all_goals (repeat (clear hK; clear K1))
  all_goals first
      | rfl
      | assumption
      | exact Bool.noConfusion (h.symm.trans hp)
      | (simp_all [inP]; done)
      | grind [inP]
      | (simp_all [inP]; omega)
set_option maxHeartbeats 2000000 in
set_option maxRecDepth 100000 in
theorem s_StateOk (w mem inn : Int) (c : List V.Ins) (pc : Int) (rg mm sk : List Int) (ic : Int) (ot : List Int) (cd sp : Int) : CallsV Try.prog 99 [.agg [.dat (.i w), .dat (.i mem), .dat (.i inn), .dat (.seq .inss c)], .agg [.dat (.i pc), .dat (.seq .ints rg), .dat (.seq .ints mm), .dat (.seq .ints sk), .dat (.i ic), .dat (.seq .ints ot), .dat (.i cd), .dat (.i sp)]] (.dat (.bool (stateP ⟨w, mem, inn, c⟩ ⟨pc, rg, mm, sk, ic, ot, cd, sp⟩))) := by
  refine CallsV.of_awp tauOk mixOk Try.func99 rfl rfl rfl ?_
  conv => whnf
  repeat' (first
    | ((with_reducible refine Alt.l ?_); conv => whnf)
    | ((with_reducible refine fun (K1 : AX → AState → Prop) hK => ?_); conv => whnf)
    | ((with_reducible show K1 _ _); subst hK; conv => whnf)
    | (with_reducible exact rfl)
    | ((with_reducible refine sp_T ?_); conv => whnf)
    | ((with_reducible refine sp_F ?_); conv => whnf)
    | ((with_reducible refine sp_T' ?_); conv => whnf)
    | ((with_reducible refine sp_F' ?_); conv => whnf)
    | ((with_reducible refine sp_dF ?_ ?_); decide; conv => whnf)
    | ((with_reducible refine sp_dT ?_ ?_); decide; conv => whnf)
    | ((with_reducible refine sp_d (fun h => ?_) (fun h => ?_)) <;> first | contradiction | (subst h; conv => whnf) | (conv => whnf))
    | ((with_reducible refine sp_d' (fun h => ?_) (fun h => ?_)) <;> first | contradiction | (subst h; conv => whnf) | (conv => whnf))
    | ((with_reducible refine sp_eF ?_ ?_); decide; conv => whnf)
    | ((with_reducible refine sp_eT ?_); conv => whnf)
    | ((with_reducible refine sp_e (fun h => ?_) (fun h => ?_)) <;> first | contradiction | (subst h; conv => whnf) | (conv => whnf))
    | ((with_reducible refine sp_e' (fun h => ?_) (fun h => ?_)) <;> first | contradiction | (subst h; conv => whnf) | (conv => whnf))
    | ((with_reducible refine sp_n (fun h => ?_) (fun h => ?_)) <;> first | contradiction | (subst h; conv => whnf) | (conv => whnf))
    | ((with_reducible refine sp_n' (fun h => ?_) (fun h => ?_)) <;> first | contradiction | (subst h; conv => whnf) | (conv => whnf))
    | ((with_reducible refine sp_nb (fun h => ?_) (fun h => ?_)) <;> first | contradiction | (exact Bool.noConfusion (Eq.trans (Eq.symm h) (show _ = true by assumption))) | (exact Bool.noConfusion (Eq.trans (Eq.symm (show _ = false by assumption)) h)) | (conv => whnf))
    | ((with_reducible refine sp_nb' (fun h => ?_) (fun h => ?_)) <;> first | contradiction | (exact Bool.noConfusion (Eq.trans (Eq.symm h) (show _ = true by assumption))) | (exact Bool.noConfusion (Eq.trans (Eq.symm (show _ = false by assumption)) h)) | (conv => whnf))
    | ((with_reducible refine sp_b (fun h => ?_) (fun h => ?_)) <;> first | contradiction | (exact Bool.noConfusion (Eq.trans (Eq.symm h) (show _ = true by assumption))) | (exact Bool.noConfusion (Eq.trans (Eq.symm (show _ = false by assumption)) h)) | (conv => whnf))
    | ((with_reducible refine sp_b' (fun h => ?_) (fun h => ?_)) <;> first | contradiction | (exact Bool.noConfusion (Eq.trans (Eq.symm h) (show _ = true by assumption))) | (exact Bool.noConfusion (Eq.trans (Eq.symm (show _ = false by assumption)) h)) | (conv => whnf))
    | (refine ⟨(rfl : nodupB _ = true), rfl, ?_⟩; conv => whnf)
    | (with_reducible refine bnd2 ?_ ?_)
    | (with_reducible refine bnd2' ?_ ?_)
    | (with_reducible refine bndN ?_ ?_)
    | ((with_reducible refine and_of ?_ ?_); conv => whnf)
    | (refine Exists.intro ({k : Nat // (sk.take k).all (fun x => inP x 0 c.length) = true}) (Exists.intro (fun ⟨k, hall⟩ => mkS Try.f99.ntmps [(2, .ptr 2 0), (3, .ptr 3 0), (23, .dat (.seq .ints sk)), (24, .dat (.i sk.length)), (25, .dat (.i k))] [(2, .box [.dat (.i w), .dat (.i mem), .dat (.i inn), .dat (.seq .inss c)]), (3, .box [.dat (.i pc), .dat (.seq .ints rg), .dat (.seq .ints mm), .dat (.seq .ints sk), .dat (.i ic), .dat (.seq .ints ot), .dat (.i cd), .dat (.i sp)])]) (Exists.intro (fun ⟨k, hall⟩ => sk.length - k) (Exists.intro ⟨0, rfl⟩ (And.intro (SubP.sub (σ := [(2, some 2), (3, some 3)]) ⟨⟨rfl, rfl, rfl⟩, ⟨⟨rfl, rfl⟩, ⟨rfl, rfl⟩, (wk_dat ?_), (wk_dat ?_), (wk_dat ?_), trivial⟩, ⟨⟨(wkC_dat ?_), (wkC_dat ?_), (wkC_dat ?_), (wkC_dat ?_), trivial⟩, ⟨(wkC_dat ?_), (wkC_dat ?_), (wkC_dat ?_), (wkC_dat ?_), (wkC_dat ?_), (wkC_dat ?_), (wkC_dat ?_), (wkC_dat ?_), trivial⟩, trivial⟩⟩) (fun ⟨k, hall⟩ => ?_))))); rotate_right; conv => whnf)
    | (refine Exists.intro ⟨k + 1, ?_⟩ (And.intro ?_ (SubP.sub (σ := [(2, some 2), (3, some 3)]) ⟨⟨rfl, rfl, rfl⟩, ⟨⟨rfl, rfl⟩, ⟨rfl, rfl⟩, (wk_dat ?_), (wk_dat ?_), (wk_dat ?_), trivial⟩, ⟨⟨(wkC_dat ?_), (wkC_dat ?_), (wkC_dat ?_), (wkC_dat ?_), trivial⟩, ⟨(wkC_dat ?_), (wkC_dat ?_), (wkC_dat ?_), (wkC_dat ?_), (wkC_dat ?_), (wkC_dat ?_), (wkC_dat ?_), (wkC_dat ?_), trivial⟩, trivial⟩⟩)))
    | ((with_reducible refine pcI (g := 52) ?_); refine ⟨_, s_ProgramOk .., rfl, ?_⟩; rotate_right; conv => whnf)
    | ((with_reducible show Exists _); refine Exists.intro _ (And.intro (s_ProgramOk ..) (And.intro rfl ?_)); rotate_right; conv => whnf)
    | ((with_reducible refine pcI (g := 82) ?_); refine ⟨_, s_l01In .., rfl, ?_⟩; rotate_right; conv => whnf)
    | ((with_reducible show Exists _); refine Exists.intro _ (And.intro (s_l01In ..) (And.intro rfl ?_)); rotate_right; conv => whnf)
    | ((with_reducible refine pcI (g := 127) ?_); refine ⟨_, s_l05Words .., rfl, ?_⟩; rotate_right; conv => whnf)
    | ((with_reducible show Exists _); refine Exists.intro _ (And.intro (s_l05Words ..) (And.intro rfl ?_)); rotate_right; conv => whnf)
    | ((with_reducible show awpOps _ _ _ _ _ _); conv => whnf)
    | (intro h; conv => whnf))
  all_goals (repeat (clear hK; clear K1))
  all_goals first
    | rfl
    | assumption
    | exact Bool.noConfusion (h.symm.trans hp)
    | omega
    | (dsimp only; omega)
    | exact congrArg (Dat.int .i64) (wrap_succ (by assumption) (by assumption)).symm
    | (rw [all_step (K.dflt .ints) (by assumption), hall]; exact h)
    | (have e := all_no (f := fun x => inP x 0 (c.length : Int)) (l := sk) (by assumption) h; simp [stateP, e]; done)
    | (have e := all_end (by assumption) hall; have e3 : decide (sk.length ≤ 3) = true := decide_eq_true (by omega); have e6 : decide (ot.length ≤ 6) = true := decide_eq_true (by omega); unfold stateP; simp only [e, e3, e6, Bool.and_self, Bool.true_and]; simp_all; done)
    | (have e := all_end (by assumption) hall; simp [stateP, e, *]; done)
    | (have e := all_end (by assumption) hall; simp_all [stateP]; done)
    | (have e := all_end (by assumption) hall; simp_all [stateP] <;> omega)
    | (simp [stateP, *]; done)
    | (simp_all [stateP]; done)
    | (simp_all [stateP] <;> omega)
    | (have e := all_end (by assumption) hall; have e3 : decide (sk.length ≤ 3) = true := decide_eq_true (by omega); have e6 : decide (ot.length ≤ 6) = true := decide_eq_true (by omega); unfold stateP; simp only [e, e3, e6, Bool.and_self, Bool.true_and]; cases hsp : inP sp 0 400 <;> simp_all; done)
    | (have e := all_end (by assumption) hall; have e3 : decide (sk.length ≤ 3) = true := decide_eq_true (by omega); have e6 : decide (ot.length ≤ 6) = true := decide_eq_true (by omega); unfold stateP; simp only [e, e3, e6, Bool.and_self, Bool.true_and]; have eo : (ot.all fun x => wordP w x) = false := (by rw [beq_self_eq_true, Bool.and_true] at h; exact h); simp only [eo, Bool.false_and, Bool.and_false]; done)
    | skip
set_option maxHeartbeats 2000000 in
set_option maxRecDepth 100000 in
theorem ip_StateOk (p : V.Prog) (pc : Int) (rg mm sk : List Int) (ic : Int) (ot : List Int) (cd sp : Int) : CallsV Try.prog 64 [.agg [.dat (.i p.w), .dat (.i p.mem), .dat (.i p.inn), .dat (.seq .inss p.code)], .agg [.dat (.i pc), .dat (.seq .ints rg), .dat (.seq .ints mm), .dat (.seq .ints sk), .dat (.i ic), .dat (.seq .ints ot), .dat (.i cd), .dat (.i sp)]] (.dat (.bool (stateP p ⟨pc, rg, mm, sk, ic, ot, cd, sp⟩))) := by
  refine CallsV.of_awp tauOk mixOk Try.func64 rfl rfl rfl ?_
  conv => whnf
  repeat' (first
    | ((with_reducible refine Alt.l ?_); conv => whnf)
    | ((with_reducible refine fun (K1 : AX → AState → Prop) hK => ?_); conv => whnf)
    | ((with_reducible show K1 _ _); subst hK; conv => whnf)
    | (with_reducible exact rfl)
    | ((with_reducible refine sp_T ?_); conv => whnf)
    | ((with_reducible refine sp_F ?_); conv => whnf)
    | ((with_reducible refine sp_T' ?_); conv => whnf)
    | ((with_reducible refine sp_F' ?_); conv => whnf)
    | ((with_reducible refine sp_dF ?_ ?_); decide; conv => whnf)
    | ((with_reducible refine sp_dT ?_ ?_); decide; conv => whnf)
    | ((with_reducible refine sp_d (fun h => ?_) (fun h => ?_)) <;> first | contradiction | (subst h; conv => whnf) | (conv => whnf))
    | ((with_reducible refine sp_d' (fun h => ?_) (fun h => ?_)) <;> first | contradiction | (subst h; conv => whnf) | (conv => whnf))
    | ((with_reducible refine sp_eF ?_ ?_); decide; conv => whnf)
    | ((with_reducible refine sp_eT ?_); conv => whnf)
    | ((with_reducible refine sp_e (fun h => ?_) (fun h => ?_)) <;> first | contradiction | (subst h; conv => whnf) | (conv => whnf))
    | ((with_reducible refine sp_e' (fun h => ?_) (fun h => ?_)) <;> first | contradiction | (subst h; conv => whnf) | (conv => whnf))
    | ((with_reducible refine sp_n (fun h => ?_) (fun h => ?_)) <;> first | contradiction | (subst h; conv => whnf) | (conv => whnf))
    | ((with_reducible refine sp_n' (fun h => ?_) (fun h => ?_)) <;> first | contradiction | (subst h; conv => whnf) | (conv => whnf))
    | ((with_reducible refine sp_nb (fun h => ?_) (fun h => ?_)) <;> first | contradiction | (exact Bool.noConfusion (Eq.trans (Eq.symm h) (show _ = true by assumption))) | (exact Bool.noConfusion (Eq.trans (Eq.symm (show _ = false by assumption)) h)) | (conv => whnf))
    | ((with_reducible refine sp_nb' (fun h => ?_) (fun h => ?_)) <;> first | contradiction | (exact Bool.noConfusion (Eq.trans (Eq.symm h) (show _ = true by assumption))) | (exact Bool.noConfusion (Eq.trans (Eq.symm (show _ = false by assumption)) h)) | (conv => whnf))
    | ((with_reducible refine sp_b (fun h => ?_) (fun h => ?_)) <;> first | contradiction | (exact Bool.noConfusion (Eq.trans (Eq.symm h) (show _ = true by assumption))) | (exact Bool.noConfusion (Eq.trans (Eq.symm (show _ = false by assumption)) h)) | (conv => whnf))
    | ((with_reducible refine sp_b' (fun h => ?_) (fun h => ?_)) <;> first | contradiction | (exact Bool.noConfusion (Eq.trans (Eq.symm h) (show _ = true by assumption))) | (exact Bool.noConfusion (Eq.trans (Eq.symm (show _ = false by assumption)) h)) | (conv => whnf))
    | (refine ⟨(rfl : nodupB _ = true), rfl, ?_⟩; conv => whnf)
    | (with_reducible refine bnd2 ?_ ?_)
    | (with_reducible refine bnd2' ?_ ?_)
    | (with_reducible refine bndN ?_ ?_)
    | ((with_reducible refine and_of ?_ ?_); conv => whnf)
    | (refine Exists.intro ({k : Nat // (sk.take k).all (fun x => inP x 0 p.code.length) = true}) (Exists.intro (fun ⟨k, hall⟩ => mkS Try.f64.ntmps [(2, .ptr 2 0), (3, .ptr 3 0), (54, .dat (.seq .ints sk)), (55, .dat (.i sk.length)), (56, .dat (.i k))] [(2, .box [.dat (.i p.w), .dat (.i p.mem), .dat (.i p.inn), .dat (.seq .inss p.code)]), (3, .box [.dat (.i pc), .dat (.seq .ints rg), .dat (.seq .ints mm), .dat (.seq .ints sk), .dat (.i ic), .dat (.seq .ints ot), .dat (.i cd), .dat (.i sp)])]) (Exists.intro (fun ⟨k, hall⟩ => sk.length - k) (Exists.intro ⟨0, rfl⟩ (And.intro (SubP.sub (σ := [(2, some 2), (3, some 3)]) ⟨⟨rfl, rfl, rfl⟩, ⟨⟨rfl, rfl⟩, ⟨rfl, rfl⟩, (wk_dat ?_), (wk_dat ?_), (wk_dat ?_), trivial⟩, ⟨⟨(wkC_dat ?_), (wkC_dat ?_), (wkC_dat ?_), (wkC_dat ?_), trivial⟩, ⟨(wkC_dat ?_), (wkC_dat ?_), (wkC_dat ?_), (wkC_dat ?_), (wkC_dat ?_), (wkC_dat ?_), (wkC_dat ?_), (wkC_dat ?_), trivial⟩, trivial⟩⟩) (fun ⟨k, hall⟩ => ?_))))); rotate_right; conv => whnf)
    | (refine Exists.intro ⟨k + 1, ?_⟩ (And.intro ?_ (SubP.sub (σ := [(2, some 2), (3, some 3)]) ⟨⟨rfl, rfl, rfl⟩, ⟨⟨rfl, rfl⟩, ⟨rfl, rfl⟩, (wk_dat ?_), (wk_dat ?_), (wk_dat ?_), trivial⟩, ⟨⟨(wkC_dat ?_), (wkC_dat ?_), (wkC_dat ?_), (wkC_dat ?_), trivial⟩, ⟨(wkC_dat ?_), (wkC_dat ?_), (wkC_dat ?_), (wkC_dat ?_), (wkC_dat ?_), (wkC_dat ?_), (wkC_dat ?_), (wkC_dat ?_), trivial⟩, trivial⟩⟩)))
    | ((with_reducible refine pcI (g := 83) ?_); refine ⟨_, i_ProgramOk .., rfl, ?_⟩; rotate_right; conv => whnf)
    | ((with_reducible show Exists _); refine Exists.intro _ (And.intro (i_ProgramOk ..) (And.intro rfl ?_)); rotate_right; conv => whnf)
    | ((with_reducible refine pcI (g := 93) ?_); refine ⟨_, i_isPlace .., rfl, ?_⟩; rotate_right; conv => whnf)
    | ((with_reducible show Exists _); refine Exists.intro _ (And.intro (i_isPlace ..) (And.intro rfl ?_)); rotate_right; conv => whnf)
    | ((with_reducible refine pcI (g := 125) ?_); refine ⟨_, i_wordsOk .., rfl, ?_⟩; rotate_right; conv => whnf)
    | ((with_reducible show Exists _); refine Exists.intro _ (And.intro (i_wordsOk ..) (And.intro rfl ?_)); rotate_right; conv => whnf)
    | ((with_reducible show awpOps _ _ _ _ _ _); conv => whnf)
    | (intro h; conv => whnf))
  all_goals (repeat (clear hK; clear K1))
  all_goals first
    | rfl
    | assumption
    | exact Bool.noConfusion (h.symm.trans hp)
    | omega
    | (dsimp only; omega)
    | exact congrArg (Dat.int .i64) (wrap_succ (by assumption) (by assumption)).symm
    | (rw [all_step (K.dflt .ints) (by assumption), hall]; exact h)
    | (have e := all_no (f := fun x => inP x 0 (p.code.length : Int)) (l := sk) (by assumption) h; simp [stateP, e]; done)
    | (have e := all_end (by assumption) hall; have e3 : decide (sk.length ≤ 3) = true := decide_eq_true (by omega); have e6 : decide (ot.length ≤ 6) = true := decide_eq_true (by omega); unfold stateP; simp only [e, e3, e6, Bool.and_self, Bool.true_and]; simp_all [inP]; done)
    | (have e := all_end (by assumption) hall; have e3 : decide (sk.length ≤ 3) = true := decide_eq_true (by omega); have e6 : decide (ot.length ≤ 6) = true := decide_eq_true (by omega); unfold stateP; simp only [e, e3, e6, Bool.and_self, Bool.true_and]; simp_all [inP]; omega)
    | (have e := all_end (by assumption) hall; simp [stateP, inP, e, *]; done)
    | (have e := all_end (by assumption) hall; simp_all [stateP, inP]; done)
    | (have e := all_end (by assumption) hall; simp_all [stateP, inP] <;> omega)
    | (simp [stateP, inP, *]; done)
    | (simp_all [stateP, inP]; done)
    | (simp_all [stateP, inP] <;> omega)
    | (have e := all_end (by assumption) hall; have e3 : decide (sk.length ≤ 3) = true := decide_eq_true (by omega); have e6 : decide (ot.length ≤ 6) = true := decide_eq_true (by omega); have a1 : inP ic 0 p.inn = true := (by unfold inP; rw [decide_eq_true (by omega), decide_eq_true (by omega)]; rfl); have a2 : inP cd 0 8 = true := (by unfold inP; rw [decide_eq_true (by omega), decide_eq_true (by omega)]; rfl); have a3 : inP sp 0 400 = decide (sp ≤ 400) := (by unfold inP; rw [decide_eq_true (p := 0 ≤ sp) (by omega)]; rfl); have a4 : ((rg.length : Int) == 4) = true := (by rw [beq_iff_eq]; omega); have a5 : ((mm.length : Int) == p.mem) = true := (by rw [beq_iff_eq]; omega); unfold stateP; simp only [e, e3, e6, a1, a2, a3, a4, a5, *, beq_self_eq_true, Bool.and_self, Bool.true_and, Bool.and_true])
    | skip
theorem i_StateOk (w mem inn : Int) (c : List V.Ins) (pc : Int) (rg mm sk : List Int) (ic : Int) (ot : List Int) (cd sp : Int) : CallsV Try.prog 64 [.agg [.dat (.i w), .dat (.i mem), .dat (.i inn), .dat (.seq .inss c)], .agg [.dat (.i pc), .dat (.seq .ints rg), .dat (.seq .ints mm), .dat (.seq .ints sk), .dat (.i ic), .dat (.seq .ints ot), .dat (.i cd), .dat (.i sp)]] (.dat (.bool (stateP ⟨w, mem, inn, c⟩ ⟨pc, rg, mm, sk, ic, ot, cd, sp⟩))) :=
  ip_StateOk ⟨w, mem, inn, c⟩ pc rg mm sk ic ot cd sp
set_option maxRecDepth 100000 in
theorem l_toState (pc : Int) (rg mm sk : List Int) (ic : Int) (ot : List Int) (cd sp : Int) (h1 : rg.length ≤ 1048576) (h2 : mm.length ≤ 1048576) (h3 : sk.length ≤ 1048576) (h4 : ot.length ≤ 1048576) : CallsF Try.prog 102 [.agg [.dat (.i pc), .dat (.seq .ints rg), .dat (.seq .ints mm), .dat (.seq .ints sk), .dat (.i ic), .dat (.seq .ints ot), .dat (.i cd), .dat (.i sp)]] true (fun res B => res = .agg [.dat (.i pc), .row 0, .row 1, .row 2, .dat (.i ic), .row 3, .dat (.i cd), .dat (.i sp)] ∧ B = [.row 3 .ints rg false, .row 3 .ints mm false, .row 3 .ints sk false, .row 3 .ints ot false]) := by
  refine CallsF.of_awp tauOk mixOk Try.func102 rfl rfl rfl ?_
  conv => whnf
  repeat' (first
    | ((with_reducible refine Alt.l ?_); conv => whnf)
    | ((with_reducible refine fun (K1 : AX → AState → Prop) hK => ?_); conv => whnf)
    | ((with_reducible show K1 _ _); subst hK; conv => whnf)
    | (with_reducible exact rfl)
    | ((with_reducible refine sp_T ?_); conv => whnf)
    | ((with_reducible refine sp_F ?_); conv => whnf)
    | ((with_reducible refine sp_T' ?_); conv => whnf)
    | ((with_reducible refine sp_F' ?_); conv => whnf)
    | ((with_reducible refine sp_dF ?_ ?_); decide; conv => whnf)
    | ((with_reducible refine sp_dT ?_ ?_); decide; conv => whnf)
    | ((with_reducible refine sp_d (fun h => ?_) (fun h => ?_)) <;> first | contradiction | (subst h; conv => whnf) | (conv => whnf))
    | ((with_reducible refine sp_d' (fun h => ?_) (fun h => ?_)) <;> first | contradiction | (subst h; conv => whnf) | (conv => whnf))
    | ((with_reducible refine sp_eF ?_ ?_); decide; conv => whnf)
    | ((with_reducible refine sp_eT ?_); conv => whnf)
    | ((with_reducible refine sp_e (fun h => ?_) (fun h => ?_)) <;> first | contradiction | (subst h; conv => whnf) | (conv => whnf))
    | ((with_reducible refine sp_e' (fun h => ?_) (fun h => ?_)) <;> first | contradiction | (subst h; conv => whnf) | (conv => whnf))
    | ((with_reducible refine sp_n (fun h => ?_) (fun h => ?_)) <;> first | contradiction | (subst h; conv => whnf) | (conv => whnf))
    | ((with_reducible refine sp_n' (fun h => ?_) (fun h => ?_)) <;> first | contradiction | (subst h; conv => whnf) | (conv => whnf))
    | ((with_reducible refine sp_nb (fun h => ?_) (fun h => ?_)) <;> first | contradiction | (exact Bool.noConfusion (Eq.trans (Eq.symm h) (show _ = true by assumption))) | (exact Bool.noConfusion (Eq.trans (Eq.symm (show _ = false by assumption)) h)) | (conv => whnf))
    | ((with_reducible refine sp_nb' (fun h => ?_) (fun h => ?_)) <;> first | contradiction | (exact Bool.noConfusion (Eq.trans (Eq.symm h) (show _ = true by assumption))) | (exact Bool.noConfusion (Eq.trans (Eq.symm (show _ = false by assumption)) h)) | (conv => whnf))
    | ((with_reducible refine sp_b (fun h => ?_) (fun h => ?_)) <;> first | contradiction | (exact Bool.noConfusion (Eq.trans (Eq.symm h) (show _ = true by assumption))) | (exact Bool.noConfusion (Eq.trans (Eq.symm (show _ = false by assumption)) h)) | (conv => whnf))
    | ((with_reducible refine sp_b' (fun h => ?_) (fun h => ?_)) <;> first | contradiction | (exact Bool.noConfusion (Eq.trans (Eq.symm h) (show _ = true by assumption))) | (exact Bool.noConfusion (Eq.trans (Eq.symm (show _ = false by assumption)) h)) | (conv => whnf))
    | (refine ⟨(rfl : nodupB _ = true), rfl, ?_⟩; conv => whnf)
    | (with_reducible refine bnd2 ?_ ?_)
    | (with_reducible refine bnd2' ?_ ?_)
    | (with_reducible refine bndN ?_ ?_)
    | ((with_reducible refine and_of ?_ ?_); conv => whnf)
    | ((with_reducible refine fcI (g := 31) ?_); refine ⟨_, _, lf_toIntS (hl := ?_) .., rfl, fun res B hRB => ?_⟩; rotate_right; obtain ⟨rfl, rfl⟩ := hRB; conv => whnf)
    | ((with_reducible show Exists _); refine Exists.intro _ (And.intro (l_toIntS (hl := ?_) ..) (And.intro rfl ?_)); rotate_right; conv => whnf)
    | ((with_reducible show awpOps _ _ _ _ _ _); conv => whnf)
    | (intro h; conv => whnf))
  all_goals (repeat (clear hK; clear K1))
  all_goals first | assumption | rfl | trivial | skip
/-- counters that a state takes -/
def cntS (s : V.State) : Nat := s.regs.length + s.mem.length + s.stack.length + s.out.length
def totS (l : List V.State) (i : Nat) : Nat := ((l.take i).map cntS).sum
theorem totS_step {l : List V.State} {i : Nat} (h : (i : Int) < l.length) : totS l (i + 1) = totS l i + cntS (l.getD i K.states.dflt) := by
  have h' : i < l.length := by omega
  simp only [totS, List.take_succ_eq_append_getElem h', List.map_append, List.sum_append, List.map_cons, List.map_nil, List.sum_cons, List.sum_nil, List.getD_eq_getElem?_getD, List.getElem?_eq_getElem h', Option.getD_some, Nat.add_zero]
theorem totS_le (l : List V.State) (i : Nat) : totS l i ≤ totS l l.length := by
  unfold totS
  rw [List.take_length]
  conv => rhs; rw [← List.take_append_drop i l]
  simp only [List.map_append, List.sum_append]
  exact Nat.le_add_right _ _
theorem totS_cnt {l : List V.State} {i : Nat} (h : (i : Int) < l.length) : cntS (l.getD i K.states.dflt) ≤ totS l l.length := by
  have h1 := totS_step h
  have h2 := totS_le l (i + 1)
  omega
theorem cntS_le {s : V.State} {n : Nat} (h : cntS s ≤ n) : s.regs.length ≤ n ∧ s.mem.length ≤ n ∧ s.stack.length ≤ n ∧ s.out.length ≤ n := by unfold cntS at h; omega
set_option maxHeartbeats 1000000 in
set_option maxRecDepth 100000 in
theorem lt_toStateS (a : List V.State) (h0 : a.length ≤ 1048576) (hl : totS a a.length ≤ 1048576) : CallsF Try.prog 38 [.dat (.seq .states a)] true (fun res B => res = .row 0 ∧ B = [.tree 72 .states a]) := by
  refine CallsF.of_awp tauOk mixOk Try.func38 rfl rfl rfl ?_
  conv => whnf
  repeat' (first
    | ((with_reducible refine Alt.r ?_); conv => whnf)
    | ((with_reducible refine fun (K1 : AX → AState → Prop) hK => ?_); conv => whnf)
    | ((with_reducible show K1 _ _); subst hK; conv => whnf)
    | (with_reducible exact rfl)
    | ((with_reducible refine sp_T ?_); conv => whnf)
    | ((with_reducible refine sp_F ?_); conv => whnf)
    | ((with_reducible refine sp_T' ?_); conv => whnf)
    | ((with_reducible refine sp_F' ?_); conv => whnf)
    | ((with_reducible refine sp_dF ?_ ?_); decide; conv => whnf)
    | ((with_reducible refine sp_dT ?_ ?_); decide; conv => whnf)
    | ((with_reducible refine sp_d (fun h => ?_) (fun h => ?_)) <;> first | contradiction | (subst h; conv => whnf) | (conv => whnf))
    | ((with_reducible refine sp_d' (fun h => ?_) (fun h => ?_)) <;> first | contradiction | (subst h; conv => whnf) | (conv => whnf))
    | ((with_reducible refine sp_eF ?_ ?_); decide; conv => whnf)
    | ((with_reducible refine sp_eT ?_); conv => whnf)
    | ((with_reducible refine sp_e (fun h => ?_) (fun h => ?_)) <;> first | contradiction | (subst h; conv => whnf) | (conv => whnf))
    | ((with_reducible refine sp_e' (fun h => ?_) (fun h => ?_)) <;> first | contradiction | (subst h; conv => whnf) | (conv => whnf))
    | ((with_reducible refine sp_n (fun h => ?_) (fun h => ?_)) <;> first | contradiction | (subst h; conv => whnf) | (conv => whnf))
    | ((with_reducible refine sp_n' (fun h => ?_) (fun h => ?_)) <;> first | contradiction | (subst h; conv => whnf) | (conv => whnf))
    | ((with_reducible refine sp_nb (fun h => ?_) (fun h => ?_)) <;> first | contradiction | (exact Bool.noConfusion (Eq.trans (Eq.symm h) (show _ = true by assumption))) | (exact Bool.noConfusion (Eq.trans (Eq.symm (show _ = false by assumption)) h)) | (conv => whnf))
    | ((with_reducible refine sp_nb' (fun h => ?_) (fun h => ?_)) <;> first | contradiction | (exact Bool.noConfusion (Eq.trans (Eq.symm h) (show _ = true by assumption))) | (exact Bool.noConfusion (Eq.trans (Eq.symm (show _ = false by assumption)) h)) | (conv => whnf))
    | ((with_reducible refine sp_b (fun h => ?_) (fun h => ?_)) <;> first | contradiction | (exact Bool.noConfusion (Eq.trans (Eq.symm h) (show _ = true by assumption))) | (exact Bool.noConfusion (Eq.trans (Eq.symm (show _ = false by assumption)) h)) | (conv => whnf))
    | ((with_reducible refine sp_b' (fun h => ?_) (fun h => ?_)) <;> first | contradiction | (exact Bool.noConfusion (Eq.trans (Eq.symm h) (show _ = true by assumption))) | (exact Bool.noConfusion (Eq.trans (Eq.symm (show _ = false by assumption)) h)) | (conv => whnf))
    | (refine ⟨(rfl : nodupB _ = true), rfl, ?_⟩; conv => whnf)
    | (with_reducible refine bnd2 ?_ ?_)
    | (with_reducible refine bnd2' ?_ ?_)
    | (with_reducible refine bndN ?_ ?_)
    | ((with_reducible refine and_of ?_ ?_); conv => whnf)
    | (refine Exists.intro ({k : Nat // k ≤ a.length}) (Exists.intro (fun ⟨k, hk⟩ => mkS Try.f38.ntmps [(0, .dat (.seq .states a)), (3, .row 7), (4, .dat (.i k))] [(7, .tree 72 .states (a.take k ++ List.replicate (a.length - k) K.states.dflt))]) (Exists.intro (fun ⟨k, hk⟩ => a.length - k) (Exists.intro ⟨0, Nat.zero_le _⟩ (And.intro (SubP.sub (σ := [(7, some 7)]) ⟨⟨rfl, rfl, rfl⟩, ⟨(wk_dat ?_), rfl, (wk_dat ?_), trivial⟩, ⟨⟨rfl, ?_⟩, trivial⟩⟩) (fun ⟨k, hk⟩ => ?_))))); rotate_right; conv => whnf)
    | (refine Exists.intro ⟨k + 1, ?_⟩ (And.intro ?_ (SubP.sub (σ := [(7, some 7)]) ⟨⟨rfl, rfl, rfl⟩, ⟨(wk_dat ?_), rfl, (wk_dat ?_), trivial⟩, ⟨⟨rfl, ?_⟩, trivial⟩⟩)))
    | ((with_reducible refine fcI (g := 102) ?_); refine ⟨_, _, l_toState (h1 := ?_) (h2 := ?_) (h3 := ?_) (h4 := ?_) .., rfl, fun res B hRB => ?_⟩; rotate_right; obtain ⟨rfl, rfl⟩ := hRB; conv => whnf)
    | ((with_reducible show awpOps _ _ _ _ _ _); conv => whnf)
    | (intro h; conv => whnf))
  all_goals (repeat (clear hK; clear K1))
  all_goals first
    | rfl
    | assumption
    | exact Bool.noConfusion (h.symm.trans hp)
    | omega
    | (dsimp only; omega)
    | exact congrArg (Dat.int .i64) (wrap_succ (by assumption) (by assumption)).symm
    | exact sig_fin ((set_mid (K.dflt .states) K.states.dflt (by assumption)).symm.trans h.symm)
    | (simp; omega)
    | exact tree_fin (take_end h)
    | (show (_ : Int) * ((128 : Nat) : Int) ≤ _; omega)
    | (have h1 := cntS_le (Nat.le_trans (totS_cnt (show _ < _ by assumption)) hl); exact h1.1)
    | (have h1 := cntS_le (Nat.le_trans (totS_cnt (show _ < _ by assumption)) hl); exact h1.2.1)
    | (have h1 := cntS_le (Nat.le_trans (totS_cnt (show _ < _ by assumption)) hl); exact h1.2.2.1)
    | (have h1 := cntS_le (Nat.le_trans (totS_cnt (show _ < _ by assumption)) hl); exact h1.2.2.2)
    | skip
set_option maxRecDepth 100000 in
theorem l_eqState (pc : Int) (rg mm sk : List Int) (ic : Int) (ot : List Int) (cd sp : Int) (pc' : Int) (rg' mm' sk' : List Int) (ic' : Int) (ot' : List Int) (cd' sp' : Int) : CallsV Try.prog 97 [.agg [.dat (.i pc), .dat (.seq .ints rg), .dat (.seq .ints mm), .dat (.seq .ints sk), .dat (.i ic), .dat (.seq .ints ot), .dat (.i cd), .dat (.i sp)], .agg [.dat (.i pc'), .dat (.seq .ints rg'), .dat (.seq .ints mm'), .dat (.seq .ints sk'), .dat (.i ic'), .dat (.seq .ints ot'), .dat (.i cd'), .dat (.i sp')]] (.dat (.bool (decide ((⟨pc, rg, mm, sk, ic, ot, cd, sp⟩ : V.State) = ⟨pc', rg', mm', sk', ic', ot', cd', sp'⟩)))) := by
  refine CallsV.of_awp tauOk mixOk Try.func97 rfl rfl rfl ?_
  conv => whnf
  repeat' (first
    | ((with_reducible refine Alt.l ?_); conv => whnf)
    | ((with_reducible refine fun (K1 : AX → AState → Prop) hK => ?_); conv => whnf)
    | ((with_reducible show K1 _ _); subst hK; conv => whnf)
    | (with_reducible exact rfl)
    | ((with_reducible refine sp_T ?_); conv => whnf)
    | ((with_reducible refine sp_F ?_); conv => whnf)
    | ((with_reducible refine sp_T' ?_); conv => whnf)
    | ((with_reducible refine sp_F' ?_); conv => whnf)
    | ((with_reducible refine sp_dF ?_ ?_); decide; conv => whnf)
    | ((with_reducible refine sp_dT ?_ ?_); decide; conv => whnf)
    | ((with_reducible refine sp_d (fun h => ?_) (fun h => ?_)) <;> first | contradiction | (subst h; conv => whnf) | (conv => whnf))
    | ((with_reducible refine sp_d' (fun h => ?_) (fun h => ?_)) <;> first | contradiction | (subst h; conv => whnf) | (conv => whnf))
    | ((with_reducible refine sp_eF ?_ ?_); decide; conv => whnf)
    | ((with_reducible refine sp_eT ?_); conv => whnf)
    | ((with_reducible refine sp_e (fun h => ?_) (fun h => ?_)) <;> first | contradiction | (subst h; conv => whnf) | (conv => whnf))
    | ((with_reducible refine sp_e' (fun h => ?_) (fun h => ?_)) <;> first | contradiction | (subst h; conv => whnf) | (conv => whnf))
    | ((with_reducible refine sp_n (fun h => ?_) (fun h => ?_)) <;> first | contradiction | (subst h; conv => whnf) | (conv => whnf))
    | ((with_reducible refine sp_n' (fun h => ?_) (fun h => ?_)) <;> first | contradiction | (subst h; conv => whnf) | (conv => whnf))
    | ((with_reducible refine sp_nb (fun h => ?_) (fun h => ?_)) <;> first | contradiction | (exact Bool.noConfusion (Eq.trans (Eq.symm h) (show _ = true by assumption))) | (exact Bool.noConfusion (Eq.trans (Eq.symm (show _ = false by assumption)) h)) | (conv => whnf))
    | ((with_reducible refine sp_nb' (fun h => ?_) (fun h => ?_)) <;> first | contradiction | (exact Bool.noConfusion (Eq.trans (Eq.symm h) (show _ = true by assumption))) | (exact Bool.noConfusion (Eq.trans (Eq.symm (show _ = false by assumption)) h)) | (conv => whnf))
    | ((with_reducible refine sp_b (fun h => ?_) (fun h => ?_)) <;> first | contradiction | (exact Bool.noConfusion (Eq.trans (Eq.symm h) (show _ = true by assumption))) | (exact Bool.noConfusion (Eq.trans (Eq.symm (show _ = false by assumption)) h)) | (conv => whnf))
    | ((with_reducible refine sp_b' (fun h => ?_) (fun h => ?_)) <;> first | contradiction | (exact Bool.noConfusion (Eq.trans (Eq.symm h) (show _ = true by assumption))) | (exact Bool.noConfusion (Eq.trans (Eq.symm (show _ = false by assumption)) h)) | (conv => whnf))
    | (refine ⟨(rfl : nodupB _ = true), rfl, ?_⟩; conv => whnf)
    | (with_reducible refine bnd2 ?_ ?_)
    | (with_reducible refine bnd2' ?_ ?_)
    | (with_reducible refine bndN ?_ ?_)
    | ((with_reducible refine and_of ?_ ?_); conv => whnf)
    | ((with_reducible refine pcI (g := 25) ?_); refine ⟨_, l_eqIntS .., rfl, ?_⟩; rotate_right; conv => whnf)
    | ((with_reducible show Exists _); refine Exists.intro _ (And.intro (l_eqIntS ..) (And.intro rfl ?_)); rotate_right; conv => whnf)
    | ((with_reducible show awpOps _ _ _ _ _ _); conv => whnf)
    | (intro h; conv => whnf))
  all_goals (repeat (clear hK; clear K1))
  all_goals first | (simp [*]; done) | (simp_all; done) | skip
set_option maxHeartbeats 2000000 in
set_option maxRecDepth 100000 in
theorem l_l_eqStateS (a b : List (K.T .states)) : CallsV Try.prog 33 [.dat (.seq .states a), .dat (.seq .states b)] (.dat (.bool (decide (a = b)))) := by
  refine CallsV.of_awp tauOk mixOk Try.func33 rfl rfl rfl ?_
  conv => whnf
  repeat' (first
    | ((with_reducible refine Alt.l ?_); conv => whnf)
    | ((with_reducible refine fun (K1 : AX → AState → Prop) hK => ?_); conv => whnf)
    | ((with_reducible show K1 _ _); subst hK; conv => whnf)
    | (with_reducible exact rfl)
    | ((with_reducible refine sp_T ?_); conv => whnf)
    | ((with_reducible refine sp_F ?_); conv => whnf)
    | ((with_reducible refine sp_T' ?_); conv => whnf)
    | ((with_reducible refine sp_F' ?_); conv => whnf)
    | ((with_reducible refine sp_dF ?_ ?_); decide; conv => whnf)
    | ((with_reducible refine sp_dT ?_ ?_); decide; conv => whnf)
    | ((with_reducible refine sp_d (fun h => ?_) (fun h => ?_)) <;> first | contradiction | (subst h; conv => whnf) | (conv => whnf))
    | ((with_reducible refine sp_d' (fun h => ?_) (fun h => ?_)) <;> first | contradiction | (subst h; conv => whnf) | (conv => whnf))
    | ((with_reducible refine sp_eF ?_ ?_); decide; conv => whnf)
    | ((with_reducible refine sp_eT ?_); conv => whnf)
    | ((with_reducible refine sp_e (fun h => ?_) (fun h => ?_)) <;> first | contradiction | (subst h; conv => whnf) | (conv => whnf))
    | ((with_reducible refine sp_e' (fun h => ?_) (fun h => ?_)) <;> first | contradiction | (subst h; conv => whnf) | (conv => whnf))
    | ((with_reducible refine sp_n (fun h => ?_) (fun h => ?_)) <;> first | contradiction | (subst h; conv => whnf) | (conv => whnf))
    | ((with_reducible refine sp_n' (fun h => ?_) (fun h => ?_)) <;> first | contradiction | (subst h; conv => whnf) | (conv => whnf))
    | ((with_reducible refine sp_nb (fun h => ?_) (fun h => ?_)) <;> first | contradiction | (exact Bool.noConfusion (Eq.trans (Eq.symm h) (show _ = true by assumption))) | (exact Bool.noConfusion (Eq.trans (Eq.symm (show _ = false by assumption)) h)) | (conv => whnf))
    | ((with_reducible refine sp_nb' (fun h => ?_) (fun h => ?_)) <;> first | contradiction | (exact Bool.noConfusion (Eq.trans (Eq.symm h) (show _ = true by assumption))) | (exact Bool.noConfusion (Eq.trans (Eq.symm (show _ = false by assumption)) h)) | (conv => whnf))
    | ((with_reducible refine sp_b (fun h => ?_) (fun h => ?_)) <;> first | contradiction | (exact Bool.noConfusion (Eq.trans (Eq.symm h) (show _ = true by assumption))) | (exact Bool.noConfusion (Eq.trans (Eq.symm (show _ = false by assumption)) h)) | (conv => whnf))
    | ((with_reducible refine sp_b' (fun h => ?_) (fun h => ?_)) <;> first | contradiction | (exact Bool.noConfusion (Eq.trans (Eq.symm h) (show _ = true by assumption))) | (exact Bool.noConfusion (Eq.trans (Eq.symm (show _ = false by assumption)) h)) | (conv => whnf))
    | (refine ⟨(rfl : nodupB _ = true), rfl, ?_⟩; conv => whnf)
    | (with_reducible refine bnd2 ?_ ?_)
    | (with_reducible refine bnd2' ?_ ?_)
    | (with_reducible refine bndN ?_ ?_)
    | ((with_reducible refine and_of ?_ ?_); conv => whnf)
    | (refine Exists.intro ({k : Nat // a.take k = b.take k}) (Exists.intro (fun ⟨k, hk⟩ => mkS Try.f33.ntmps [(0, .dat (.seq .states a)), (1, .dat (.seq .states b)), (5, .dat (.i k))] []) (Exists.intro (fun ⟨k, hk⟩ => a.length - k) (Exists.intro ⟨0, rfl⟩ (And.intro (SubP.sub (σ := []) ⟨⟨rfl, rfl, rfl⟩, ⟨(wk_dat ?_), (wk_dat ?_), (wk_dat ?_), trivial⟩, trivial⟩) (fun ⟨k, hk⟩ => ?_))))); rotate_right; conv => whnf)
    | (refine Exists.intro ⟨k + 1, ?_⟩ (And.intro ?_ (SubP.sub (σ := []) ⟨⟨rfl, rfl, rfl⟩, ⟨(wk_dat ?_), (wk_dat ?_), (wk_dat ?_), trivial⟩, trivial⟩)))
    | ((with_reducible refine pcI (g := 97) ?_); refine ⟨_, l_eqState .., rfl, ?_⟩; rotate_right; conv => whnf)
    | ((with_reducible show Exists _); refine Exists.intro _ (And.intro (l_eqState ..) (And.intro rfl ?_)); rotate_right; conv => whnf)
    | ((with_reducible show awpOps _ _ _ _ _ _); conv => whnf)
    | (intro h; conv => whnf))
  all_goals (repeat (clear hK; clear K1))
  all_goals first
    | rfl
    | assumption
    | exact Bool.noConfusion (h.symm.trans hp)
    | omega
    | (dsimp only; omega)
    | exact congrArg (Dat.int .i64) (wrap_succ (by assumption) (by assumption)).symm
    | exact congrArg Dat.bool (decide_eq_false (fun e => h (by rw [e])))
    | exact take_eq_step (K.dflt .states) (by assumption) (by omega) hk (of_decide_eq_true h)
    | exact take_eq_step (K.dflt .states) (by assumption) (by omega) hk h
    | exact congrArg Dat.bool (decide_eq_false (ne_of_getD (of_decide_eq_false h)))
    | exact congrArg Dat.bool (decide_eq_false (ne_of_getD h))
    | exact congrArg Dat.bool (decide_eq_true (take_eq_end (by assumption) (by omega) hk))
end Vg
