/- States: contracts of the law's helpers and of StateOk. Condition: lists are no longer than the law lets through. -/
import Derived.Test.YtnjkencoohaheaaTMark
import Derived.Test.YtnjkencoohaheaaFHolds
namespace Vg
open Go Go.Proofs
def stateP (p : V.Prog) (s : V.State) : Bool :=
  (progP p && (decide (s.stack.length ≤ 3) && decide (s.out.length ≤ 6))) && (s.stack.all (fun x => inP x 0 p.code.length) && (inP s.pc 0 p.code.length && ((s.regs.all (fun x => wordP p.w x) && (s.regs.length == (4 : Int))) &&
    ((s.mem.all (fun x => wordP p.w x) && (s.mem.length == p.mem)) && (inP s.inn 0 p.inn && (s.out.all (fun x => wordP p.w x) && (inP s.code 0 8 && inP s.steps 0 400)))))))
set_option maxRecDepth 100000 in
theorem i_isPlace (w mem inn : Int) (c : List V.Ins) (n : Int) : CallsV Try.prog 75 [.agg [.dat (.i w), .dat (.i mem), .dat (.i inn), .dat (.seq .inss c)], .dat (.i n)] (.dat (.bool (inP n 0 c.length))) := by
  refine CallsV.of_awp tauOk mixOk Try.func75 rfl rfl rfl ?_
  conv => whnf
  repeat' (first
    | ((with_reducible refine Alt.l ?_); conv => whnf)
    | ((with_reducible refine fun (K1 : AX → AState → Prop) hK => ?_); conv => whnf)
    | ((with_reducible show K1 _ _); subst hK; conv => whnf)
    | (with_reducible exact rfl)
    | ((with_reducible refine sp_T ?_); conv => whnf)
    | ((with_reducible refine sp_F ?_); conv => whnf)
    | ((with_reducible refine sp_T' ?_); conv => whnf)
    | ((with_reducible refine sp_F' ?_); conv => whnf)
    | ((with_reducible refine sp_dF ?_ ?_); decide; conv => whnf)
    | ((with_reducible refine sp_dT ?_ ?_); decide; conv => whnf)
    | ((with_reducible refine sp_d (fun h => ?_) (fun h => ?_)) <;> first | contradiction | (subst h; conv => whnf) | (conv => whnf))
    | ((with_reducible refine sp_d' (fun h => ?_) (fun h => ?_)) <;> first | contradiction | (subst h; conv => whnf) | (conv => whnf))
    | ((with_reducible refine sp_eF ?_ ?_); decide; conv => whnf)
    | ((with_reducible refine sp_eT ?_); conv => whnf)
    | ((with_reducible refine sp_e (fun h => ?_) (fun h => ?_)) <;> first | contradiction | (subst h; conv => whnf) | (conv => whnf))
    | ((with_reducible refine sp_e' (fun h => ?_) (fun h => ?_)) <;> first | contradiction | (subst h; conv => whnf) | (conv => whnf))
    | ((with_reducible refine sp_n (fun h => ?_) (fun h => ?_)) <;> first | contradiction | (subst h; conv => whnf) | (conv => whnf))
    | ((with_reducible refine sp_n' (fun h => ?_) (fun h => ?_)) <;> first | contradiction | (subst h; conv => whnf) | (conv => whnf))
    | ((with_reducible refine sp_nb (fun h => ?_) (fun h => ?_)) <;> first | contradiction | (exact Bool.noConfusion (Eq.trans (Eq.symm h) (show _ = true by assumption))) | (exact Bool.noConfusion (Eq.trans (Eq.symm (show _ = false by assumption)) h)) | (conv => whnf))
    | ((with_reducible refine sp_nb' (fun h => ?_) (fun h => ?_)) <;> first | contradiction | (exact Bool.noConfusion (Eq.trans (Eq.symm h) (show _ = true by assumption))) | (exact Bool.noConfusion (Eq.trans (Eq.symm (show _ = false by assumption)) h)) | (conv => whnf))
    | ((with_reducible refine sp_b (fun h => ?_) (fun h => ?_)) <;> first | contradiction | (exact Bool.noConfusion (Eq.trans (Eq.symm h) (show _ = true by assumption))) | (exact Bool.noConfusion (Eq.trans (Eq.symm (show _ = false by assumption)) h)) | (conv => whnf))
    | ((with_reducible refine sp_b' (fun h => ?_) (fun h => ?_)) <;> first | contradiction | (exact Bool.noConfusion (Eq.trans (Eq.symm h) (show _ = true by assumption))) | (exact Bool.noConfusion (Eq.trans (Eq.symm (show _ = false by assumption)) h)) | (conv => whnf))
    | (refine ⟨(rfl : nodupB _ = true), rfl, ?_⟩; conv => whnf)
    | (with_reducible refine bnd2 ?_ ?_)
    | (with_reducible refine bnd2' ?_ ?_)
    | (with_reducible refine bndN ?_ ?_)
    | ((with_reducible refine and_of ?_ ?_); conv => whnf)
    | ((with_reducible show awpOps _ _ _ _ _ _); conv => whnf)
    | (intro h; conv => whnf))
  all_goals (repeat (clear hK; clear K1))
  all_goals first
      | rfl
      | assumption
      | exact Bool.noConfusion (h.symm.trans hp)
      | (simp_all [inP]; done)
      | grind [inP]
      | (simp_all [inP]; omega)
set_option maxHeartbeats 2000000 in
set_option maxRecDepth 100000 in
theorem ip_StateOk (p : V.Prog) (pc : Int) (rg mm sk : List Int) (ic : Int) (ot : List Int) (cd sp : Int) : CallsV Try.prog 31 [.agg [.dat (.i p.w), .dat (.i p.mem), .dat (.i p.inn), .dat (.seq .inss p.code)], .agg [.dat (.i pc), .dat (.seq .ints rg), .dat (.seq .ints mm), .dat (.seq .ints sk), .dat (.i ic), .dat (.seq .ints ot), .dat (.i cd), .dat (.i sp)]] (.dat (.bool (stateP p ⟨pc, rg, mm, sk, ic, ot, cd, sp⟩))) := by
  refine CallsV.of_awp tauOk mixOk Try.func31 rfl rfl rfl ?_
  conv => whnf
  repeat' (first
    | ((with_reducible refine Alt.l ?_); conv => whnf)
    | ((with_reducible refine fun (K1 : AX → AState → Prop) hK => ?_); conv => whnf)
    | ((with_reducible show K1 _ _); subst hK; conv => whnf)
    | (with_reducible exact rfl)
    | ((with_reducible refine sp_T ?_); conv => whnf)
    | ((with_reducible refine sp_F ?_); conv => whnf)
    | ((with_reducible refine sp_T' ?_); conv => whnf)
    | ((with_reducible refine sp_F' ?_); conv => whnf)
    | ((with_reducible refine sp_dF ?_ ?_); decide; conv => whnf)
    | ((with_reducible refine sp_dT ?_ ?_); decide; conv => whnf)
    | ((with_reducible refine sp_d (fun h => ?_) (fun h => ?_)) <;> first | contradiction | (subst h; conv => whnf) | (conv => whnf))
    | ((with_reducible refine sp_d' (fun h => ?_) (fun h => ?_)) <;> first | contradiction | (subst h; conv => whnf) | (conv => whnf))
    | ((with_reducible refine sp_eF ?_ ?_); decide; conv => whnf)
    | ((with_reducible refine sp_eT ?_); conv => whnf)
    | ((with_reducible refine sp_e (fun h => ?_) (fun h => ?_)) <;> first | contradiction | (subst h; conv => whnf) | (conv => whnf))
    | ((with_reducible refine sp_e' (fun h => ?_) (fun h => ?_)) <;> first | contradiction | (subst h; conv => whnf) | (conv => whnf))
    | ((with_reducible refine sp_n (fun h => ?_) (fun h => ?_)) <;> first | contradiction | (subst h; conv => whnf) | (conv => whnf))
    | ((with_reducible refine sp_n' (fun h => ?_) (fun h => ?_)) <;> first | contradiction | (subst h; conv => whnf) | (conv => whnf))
    | ((with_reducible refine sp_nb (fun h => ?_) (fun h => ?_)) <;> first | contradiction | (exact Bool.noConfusion (Eq.trans (Eq.symm h) (show _ = true by assumption))) | (exact Bool.noConfusion (Eq.trans (Eq.symm (show _ = false by assumption)) h)) | (conv => whnf))
    | ((with_reducible refine sp_nb' (fun h => ?_) (fun h => ?_)) <;> first | contradiction | (exact Bool.noConfusion (Eq.trans (Eq.symm h) (show _ = true by assumption))) | (exact Bool.noConfusion (Eq.trans (Eq.symm (show _ = false by assumption)) h)) | (conv => whnf))
    | ((with_reducible refine sp_b (fun h => ?_) (fun h => ?_)) <;> first | contradiction | (exact Bool.noConfusion (Eq.trans (Eq.symm h) (show _ = true by assumption))) | (exact Bool.noConfusion (Eq.trans (Eq.symm (show _ = false by assumption)) h)) | (conv => whnf))
    | ((with_reducible refine sp_b' (fun h => ?_) (fun h => ?_)) <;> first | contradiction | (exact Bool.noConfusion (Eq.trans (Eq.symm h) (show _ = true by assumption))) | (exact Bool.noConfusion (Eq.trans (Eq.symm (show _ = false by assumption)) h)) | (conv => whnf))
    | (refine ⟨(rfl : nodupB _ = true), rfl, ?_⟩; conv => whnf)
    | (with_reducible refine bnd2 ?_ ?_)
    | (with_reducible refine bnd2' ?_ ?_)
    | (with_reducible refine bndN ?_ ?_)
    | ((with_reducible refine and_of ?_ ?_); conv => whnf)
    | (refine Exists.intro ({k : Nat // (sk.take k).all (fun x => inP x 0 p.code.length) = true}) (Exists.intro (fun ⟨k, hall⟩ => mkS Try.f31.ntmps [(2, .ptr 2 0), (3, .ptr 3 0), (54, .dat (.seq .ints sk)), (55, .dat (.i sk.length)), (56, .dat (.i k))] [(2, .box [.dat (.i p.w), .dat (.i p.mem), .dat (.i p.inn), .dat (.seq .inss p.code)]), (3, .box [.dat (.i pc), .dat (.seq .ints rg), .dat (.seq .ints mm), .dat (.seq .ints sk), .dat (.i ic), .dat (.seq .ints ot), .dat (.i cd), .dat (.i sp)])]) (Exists.intro (fun ⟨k, hall⟩ => sk.length - k) (Exists.intro ⟨0, rfl⟩ (And.intro (SubP.sub (σ := [(2, some 2), (3, some 3)]) ⟨⟨rfl, rfl, rfl⟩, ⟨⟨rfl, rfl⟩, ⟨rfl, rfl⟩, (wk_dat ?_), (wk_dat ?_), (wk_dat ?_), trivial⟩, ⟨⟨(wkC_dat ?_), (wkC_dat ?_), (wkC_dat ?_), (wkC_dat ?_), trivial⟩, ⟨(wkC_dat ?_), (wkC_dat ?_), (wkC_dat ?_), (wkC_dat ?_), (wkC_dat ?_), (wkC_dat ?_), (wkC_dat ?_), (wkC_dat ?_), trivial⟩, trivial⟩⟩) (fun ⟨k, hall⟩ => ?_))))); rotate_right; conv => whnf)
    | (refine Exists.intro ⟨k + 1, ?_⟩ (And.intro ?_ (SubP.sub (σ := [(2, some 2), (3, some 3)]) ⟨⟨rfl, rfl, rfl⟩, ⟨⟨rfl, rfl⟩, ⟨rfl, rfl⟩, (wk_dat ?_), (wk_dat ?_), (wk_dat ?_), trivial⟩, ⟨⟨(wkC_dat ?_), (wkC_dat ?_), (wkC_dat ?_), (wkC_dat ?_), trivial⟩, ⟨(wkC_dat ?_), (wkC_dat ?_), (wkC_dat ?_), (wkC_dat ?_), (wkC_dat ?_), (wkC_dat ?_), (wkC_dat ?_), (wkC_dat ?_), trivial⟩, trivial⟩⟩)))
    | ((with_reducible refine pcI (g := 57) ?_); refine ⟨_, i_ProgramOk .., rfl, ?_⟩; rotate_right; conv => whnf)
    | ((with_reducible show Exists _); refine Exists.intro _ (And.intro (i_ProgramOk ..) (And.intro rfl ?_)); rotate_right; conv => whnf)
    | ((with_reducible refine pcI (g := 75) ?_); refine ⟨_, i_isPlace .., rfl, ?_⟩; rotate_right; conv => whnf)
    | ((with_reducible show Exists _); refine Exists.intro _ (And.intro (i_isPlace ..) (And.intro rfl ?_)); rotate_right; conv => whnf)
    | ((with_reducible refine pcI (g := 86) ?_); refine ⟨_, i_wordsOk .., rfl, ?_⟩; rotate_right; conv => whnf)
    | ((with_reducible show Exists _); refine Exists.intro _ (And.intro (i_wordsOk ..) (And.intro rfl ?_)); rotate_right; conv => whnf)
    | ((with_reducible show awpOps _ _ _ _ _ _); conv => whnf)
    | (intro h; conv => whnf))
  all_goals (repeat (clear hK; clear K1))
  all_goals first
    | rfl
    | assumption
    | exact Bool.noConfusion (h.symm.trans hp)
    | omega
    | (dsimp only; omega)
    | exact congrArg (Dat.int .i64) (wrap_succ (by assumption) (by assumption)).symm
    | (rw [all_step (K.dflt .ints) (by assumption), hall]; exact h)
    | (have e := all_no (f := fun x => inP x 0 (p.code.length : Int)) (l := sk) (by assumption) h; simp [stateP, e]; done)
    | (have e := all_end (by assumption) hall; have e3 : decide (sk.length ≤ 3) = true := decide_eq_true (by omega); have e6 : decide (ot.length ≤ 6) = true := decide_eq_true (by omega); unfold stateP; simp only [e, e3, e6, Bool.and_self, Bool.true_and]; simp_all [inP]; done)
    | (have e := all_end (by assumption) hall; have e3 : decide (sk.length ≤ 3) = true := decide_eq_true (by omega); have e6 : decide (ot.length ≤ 6) = true := decide_eq_true (by omega); unfold stateP; simp only [e, e3, e6, Bool.and_self, Bool.true_and]; simp_all [inP]; omega)
    | (have e := all_end (by assumption) hall; simp [stateP, inP, *]; done)
    | (have e := all_end (by assumption) hall; simp_all [stateP, inP]; done)
    | (have e := all_end (by assumption) hall; simp_all [stateP, inP] <;> omega)
    | (simp [stateP, inP, *]; done)
    | (simp_all [stateP, inP]; done)
    | (simp_all [stateP, inP] <;> omega)
    | (have e := all_end (by assumption) hall; have e3 : decide (sk.length ≤ 3) = true := decide_eq_true (by omega); have e6 : decide (ot.length ≤ 6) = true := decide_eq_true (by omega); have a1 : inP ic 0 p.inn = true := (by unfold inP; rw [decide_eq_true (by omega), decide_eq_true (by omega)]; rfl); have a2 : inP cd 0 8 = true := (by unfold inP; rw [decide_eq_true (by omega), decide_eq_true (by omega)]; rfl); have a3 : inP sp 0 400 = decide (sp ≤ 400) := (by unfold inP; rw [decide_eq_true (p := 0 ≤ sp) (by omega)]; rfl); have a4 : ((rg.length : Int) == 4) = true := (by rw [beq_iff_eq]; omega); have a5 : ((mm.length : Int) == p.mem) = true := (by rw [beq_iff_eq]; omega); unfold stateP; simp only [*, beq_self_eq_true, Bool.and_self, Bool.true_and])
    | skip
theorem i_StateOk (w mem inn : Int) (c : List V.Ins) (pc : Int) (rg mm sk : List Int) (ic : Int) (ot : List Int) (cd sp : Int) : CallsV Try.prog 31 [.agg [.dat (.i w), .dat (.i mem), .dat (.i inn), .dat (.seq .inss c)], .agg [.dat (.i pc), .dat (.seq .ints rg), .dat (.seq .ints mm), .dat (.seq .ints sk), .dat (.i ic), .dat (.seq .ints ot), .dat (.i cd), .dat (.i sp)]] (.dat (.bool (stateP ⟨w, mem, inn, c⟩ ⟨pc, rg, mm, sk, ic, ot, cd, sp⟩))) :=
  ip_StateOk ⟨w, mem, inn, c⟩ pc rg mm sk ic ot cd sp
/-- counters that a state takes -/
def cntS (s : V.State) : Nat := s.regs.length + s.mem.length + s.stack.length + s.out.length
def totS (l : List V.State) (i : Nat) : Nat := ((l.take i).map cntS).sum
theorem totS_step {l : List V.State} {i : Nat} (h : (i : Int) < l.length) : totS l (i + 1) = totS l i + cntS (l.getD i K.states.dflt) := by
  have h' : i < l.length := by omega
  simp only [totS, List.take_succ_eq_append_getElem h', List.map_append, List.sum_append, List.map_cons, List.map_nil, List.sum_cons, List.sum_nil, List.getD_eq_getElem?_getD, List.getElem?_eq_getElem h', Option.getD_some, Nat.add_zero]
theorem totS_le (l : List V.State) (i : Nat) : totS l i ≤ totS l l.length := by
  unfold totS
  rw [List.take_length]
  conv => rhs; rw [← List.take_append_drop i l]
  simp only [List.map_append, List.sum_append]
  exact Nat.le_add_right _ _
theorem totS_cnt {l : List V.State} {i : Nat} (h : (i : Int) < l.length) : cntS (l.getD i K.states.dflt) ≤ totS l l.length := by
  have h1 := totS_step h
  have h2 := totS_le l (i + 1)
  omega
theorem cntS_le {s : V.State} {n : Nat} (h : cntS s ≤ n) : s.regs.length ≤ n ∧ s.mem.length ≤ n ∧ s.stack.length ≤ n ∧ s.out.length ≤ n := by unfold cntS at h; omega
end Vg
