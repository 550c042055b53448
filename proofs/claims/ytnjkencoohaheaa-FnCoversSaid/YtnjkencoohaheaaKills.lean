/- Kills and scores: contracts, and of the law FnExactScoreOf. Condition: lists are no longer than the law lets through. -/
import Derived.Test.YtnjkencoohaheaaRuns
import Derived.Test.YtnjkencoohaheaaMut
import Derived.Test.YtnjkencoohaheaaMark
namespace Vg
open Go Go.Proofs

/-- are the runs of both programs with these inputs the same? -/
def sameRunP (p q : V.Prog) (inp : List Int) (fuel : Int) : Bool :=
  sameP (runM p inp fuel.toNat).code (runM q inp fuel.toNat).code (runM p inp fuel.toNat).out (runM q inp fuel.toNat).out
def killsTo (p q : V.Prog) (ts : List (List Int)) (fuel : Int) (k : Nat) : List Int := ((List.range k).filter fun i => !sameRunP p q (ts.getD i []) fuel).map fun i => ((i : Nat) : Int)
theorem killsTo_yes {p q : V.Prog} {ts : List (List Int)} {fuel : Int} {k : Nat} (h : sameRunP p q (ts.getD k []) fuel = false) : killsTo p q ts fuel (k + 1) = killsTo p q ts fuel k ++ [(k : Int)] := by
  simp only [killsTo, List.range_succ, List.filter_append, List.map_append, List.filter_cons, h, Bool.not_false, if_true, List.filter_nil, List.map_cons, List.map_nil]
theorem killsTo_no {p q : V.Prog} {ts : List (List Int)} {fuel : Int} {k : Nat} (h : sameRunP p q (ts.getD k []) fuel = true) : killsTo p q ts fuel (k + 1) = killsTo p q ts fuel k := by
  simp only [killsTo, List.range_succ, List.filter_append, List.filter_cons, h, Bool.not_true, List.filter_nil, List.append_nil, Bool.false_eq_true, if_false]
theorem killsTo_len (p q : V.Prog) (ts : List (List Int)) (fuel : Int) (k : Nat) : (killsTo p q ts fuel k).length ≤ k := by
  have := List.length_filter_le (fun i => !sameRunP p q (ts.getD i []) fuel) (List.range k)
  simp only [killsTo, List.length_map]
  simpa using this
def killOk (p q : V.Prog) (ts : List (List Int)) (fuel : Int) : Bool :=
  progP p && progP q && ts.all (fun x => inputsP p x) && ts.all (fun x => inputsP q x) && inP fuel 0 400
theorem all_at {f : List Int → Bool} {ts : List (List Int)} {k : Nat} (h : ts.all f = true) (hk : (k : Int) < ts.length) : f (ts.getD k []) = true := by
  rw [List.all_eq_true] at h
  have hk' : k < ts.length := by omega
  rw [List.getD_eq_getElem?_getD, List.getElem?_eq_getElem hk']
  exact h _ (List.getElem_mem hk')

set_option maxHeartbeats 4000000 in
set_option maxRecDepth 100000 in
theorem i_KillsOf1 (w mem inn : Int) (c : List V.Ins) (w' mem' inn' : Int) (c' : List V.Ins) (ts : List (List Int)) (fuel : Int) (h1 : progP ⟨w, mem, inn, c⟩ = true) (h2 : progP ⟨w', mem', inn', c'⟩ = true) (h3 : ts.all (fun x => inputsP ⟨w, mem, inn, c⟩ x) = true) (h4 : ts.all (fun x => inputsP ⟨w', mem', inn', c'⟩ x) = true) (h5 : inP fuel 0 400 = true) (hl : ts.length ≤ 1048576) : CallsF Try.prog 15 [.agg [.dat (.i w), .dat (.i mem), .dat (.i inn), .dat (.seq .inss c)], .agg [.dat (.i w'), .dat (.i mem'), .dat (.i inn'), .dat (.seq .inss c')], .dat (.seq .intss ts), .dat (.i fuel)] true (fun res B => res = .row 0 ∧ B = [.row 3 .ints (killsTo ⟨w, mem, inn, c⟩ ⟨w', mem', inn', c'⟩ ts fuel ts.length) false]) := by
  refine CallsF.of_awp tauOk mixOk Try.func15 rfl rfl rfl ?_
  conv => whnf
  repeat' (first
    | ((with_reducible refine Alt.l ?_); conv => whnf)
    | ((with_reducible refine fun (K1 : AX → AState → Prop) hK => ?_); conv => whnf)
    | ((with_reducible show K1 _ _); subst hK; conv => whnf)
    | (with_reducible exact rfl)
    | ((with_reducible refine sp_T ?_); conv => whnf)
    | ((with_reducible refine sp_F ?_); conv => whnf)
    | ((with_reducible refine sp_T' ?_); conv => whnf)
    | ((with_reducible refine sp_F' ?_); conv => whnf)
    | ((with_reducible refine sp_dF ?_ ?_); decide; conv => whnf)
    | ((with_reducible refine sp_dT ?_ ?_); decide; conv => whnf)
    | ((with_reducible refine sp_d (fun h => ?_) (fun h => ?_)) <;> first | contradiction | (subst h; conv => whnf) | (conv => whnf))
    | ((with_reducible refine sp_d' (fun h => ?_) (fun h => ?_)) <;> first | contradiction | (subst h; conv => whnf) | (conv => whnf))
    | ((with_reducible refine sp_eF ?_ ?_); decide; conv => whnf)
    | ((with_reducible refine sp_eT ?_); conv => whnf)
    | ((with_reducible refine sp_e (fun h => ?_) (fun h => ?_)) <;> first | contradiction | (subst h; conv => whnf) | (conv => whnf))
    | ((with_reducible refine sp_e' (fun h => ?_) (fun h => ?_)) <;> first | contradiction | (subst h; conv => whnf) | (conv => whnf))
    | ((with_reducible refine sp_n (fun h => ?_) (fun h => ?_)) <;> first | contradiction | (subst h; conv => whnf) | (conv => whnf))
    | ((with_reducible refine sp_n' (fun h => ?_) (fun h => ?_)) <;> first | contradiction | (subst h; conv => whnf) | (conv => whnf))
    | ((with_reducible refine sp_nb (fun h => ?_) (fun h => ?_)) <;> first | contradiction | (exact Bool.noConfusion (Eq.trans (Eq.symm h) (show _ = true by assumption))) | (exact Bool.noConfusion (Eq.trans (Eq.symm (show _ = false by assumption)) h)) | (conv => whnf))
    | ((with_reducible refine sp_nb' (fun h => ?_) (fun h => ?_)) <;> first | contradiction | (exact Bool.noConfusion (Eq.trans (Eq.symm h) (show _ = true by assumption))) | (exact Bool.noConfusion (Eq.trans (Eq.symm (show _ = false by assumption)) h)) | (conv => whnf))
    | ((with_reducible refine sp_b (fun h => ?_) (fun h => ?_)) <;> first | contradiction | (exact Bool.noConfusion (Eq.trans (Eq.symm h) (show _ = true by assumption))) | (exact Bool.noConfusion (Eq.trans (Eq.symm (show _ = false by assumption)) h)) | (conv => whnf))
    | ((with_reducible refine sp_b' (fun h => ?_) (fun h => ?_)) <;> first | contradiction | (exact Bool.noConfusion (Eq.trans (Eq.symm h) (show _ = true by assumption))) | (exact Bool.noConfusion (Eq.trans (Eq.symm (show _ = false by assumption)) h)) | (conv => whnf))
    | (refine ⟨(rfl : nodupB _ = true), rfl, ?_⟩; conv => whnf)
    | (with_reducible refine bnd2 ?_ ?_)
    | (with_reducible refine bnd2' ?_ ?_)
    | (with_reducible refine bndN ?_ ?_)
    | ((with_reducible refine and_of ?_ ?_); conv => whnf)
    | (refine Exists.intro ({k : Nat // k ≤ ts.length}) (Exists.intro (fun ⟨k, hk⟩ => mkS Try.f15.ntmps [(2, .dat (.seq .intss ts)), (3, .dat (.i fuel)), (4, .ptr 4 0), (5, .ptr 5 0), (9, .row 57), (37, .dat (.seq .intss ts)), (38, .dat (.i ts.length)), (39, .dat (.i k))] [(4, .box [.dat (.i w), .dat (.i mem), .dat (.i inn), .dat (.seq .inss c)]), (5, .box [.dat (.i w'), .dat (.i mem'), .dat (.i inn'), .dat (.seq .inss c')]), (57, .row 3 .ints (killsTo ⟨w, mem, inn, c⟩ ⟨w', mem', inn', c'⟩ ts fuel k) false)]) (Exists.intro (fun ⟨k, hk⟩ => ts.length - k) (Exists.intro ⟨0, Nat.zero_le _⟩ (And.intro (SubP.sub (σ := [(4, some 4), (5, some 5), (57, none)]) ⟨⟨rfl, rfl, rfl⟩, ⟨(wk_dat ?_), (wk_dat ?_), ⟨rfl, rfl⟩, ⟨rfl, rfl⟩, rfl, (wk_dat ?_), (wk_dat ?_), (wk_dat ?_), trivial⟩, ⟨⟨(wkC_dat ?_), (wkC_dat ?_), (wkC_dat ?_), (wkC_dat ?_), trivial⟩, ⟨(wkC_dat ?_), (wkC_dat ?_), (wkC_dat ?_), (wkC_dat ?_), trivial⟩, ?_, trivial⟩⟩) (fun ⟨k, hk⟩ => ?_))))); rotate_right; conv => whnf)
    | (refine Exists.intro ⟨k + 1, ?_⟩ (And.intro ?_ (SubP.sub (σ := [(4, some 4), (5, some 5), (57, some 57)]) ⟨⟨rfl, rfl, rfl⟩, ⟨(wk_dat ?_), (wk_dat ?_), ⟨rfl, rfl⟩, ⟨rfl, rfl⟩, rfl, (wk_dat ?_), (wk_dat ?_), (wk_dat ?_), trivial⟩, ⟨⟨(wkC_dat ?_), (wkC_dat ?_), (wkC_dat ?_), (wkC_dat ?_), trivial⟩, ⟨(wkC_dat ?_), (wkC_dat ?_), (wkC_dat ?_), (wkC_dat ?_), trivial⟩, ⟨⟨rfl, rfl⟩, ?_⟩, trivial⟩⟩)))
    | ((with_reducible refine pcI (g := 57) ?_); refine ⟨_, i_ProgramOk .., rfl, ?_⟩; rotate_right; conv => whnf)
    | ((with_reducible show Exists _); refine Exists.intro _ (And.intro (i_ProgramOk ..) (And.intro rfl ?_)); rotate_right; conv => whnf)
    | ((with_reducible refine pcI (g := 66) ?_); refine ⟨_, i_testsOk .., rfl, ?_⟩; rotate_right; conv => whnf)
    | ((with_reducible show Exists _); refine Exists.intro _ (And.intro (i_testsOk ..) (And.intro rfl ?_)); rotate_right; conv => whnf)
    | ((with_reducible refine pcI (g := 67) ?_); refine ⟨_, i_fuelOk .., rfl, ?_⟩; rotate_right; conv => whnf)
    | ((with_reducible show Exists _); refine Exists.intro _ (And.intro (i_fuelOk ..) (And.intro rfl ?_)); rotate_right; conv => whnf)
    | ((with_reducible refine pcI (g := 68) ?_); refine ⟨_, i_SameRun .., rfl, ?_⟩; rotate_right; conv => whnf)
    | ((with_reducible show Exists _); refine Exists.intro _ (And.intro (i_SameRun ..) (And.intro rfl ?_)); rotate_right; conv => whnf)
    | ((with_reducible refine pcI (g := 30) ?_); refine ⟨_, i_RunProgram1 (hp := by assumption) (hi := by assumption) (h0 := by assumption) (h1 := by assumption) .., rfl, ?_⟩; rotate_right; conv => whnf)
    | ((with_reducible show Exists _); refine Exists.intro _ (And.intro (i_RunProgram1 (hp := by assumption) (hi := by assumption) (h0 := by assumption) (h1 := by assumption) ..) (And.intro rfl ?_)); rotate_right; conv => whnf)
    | ((with_reducible refine pcI (g := 30) ?_); refine ⟨_, i_RunProgram (hi := ?_) (h0 := ?_) (h1 := ?_) .., rfl, ?_⟩; rotate_right; conv => whnf)
    | ((with_reducible show Exists _); refine Exists.intro _ (And.intro (i_RunProgram (hi := ?_) (h0 := ?_) (h1 := ?_) ..) (And.intro rfl ?_)); rotate_right; conv => whnf)
    | ((with_reducible show awpOps _ _ _ _ _ _); conv => whnf)
    | (intro h; conv => whnf))
  all_goals (repeat (clear hK; clear K1))
  all_goals first
    | rfl
    | assumption
    | exact Bool.noConfusion (h.symm.trans hp)
    | omega
    | (dsimp only; omega)
    | exact congrArg (Dat.int .i64) (wrap_succ (by assumption) (by assumption)).symm
    | exact Bool.noConfusion (h.symm.trans h1)
    | exact Bool.noConfusion (h.symm.trans h2)
    | exact Bool.noConfusion (h.symm.trans h3)
    | exact Bool.noConfusion (h.symm.trans h4)
    | exact Bool.noConfusion (h.symm.trans h5)
    | exact killsTo_yes (by assumption)
    | exact sig_fin (killsTo_yes (by assumption))
    | exact sig_fin (killsTo_no (by assumption))
    | exact all_at h3 (by assumption)
    | exact all_at h4 (by assumption)
    | (simp only [inP, Bool.and_eq_true, decide_eq_true_eq] at h5; omega)
    | (have hb := killsTo_len ⟨w, mem, inn, c⟩ ⟨w', mem', inn', c'⟩ ts fuel k; simp; omega)
    | (have hb := killsTo_len ⟨w, mem, inn, c⟩ ⟨w', mem', inn', c'⟩ ts fuel k; show ((killsTo _ _ ts fuel k).length + [_].length) * 8 ≤ _; simp; omega)
    | (have hb := killsTo_len ⟨w, mem, inn, c⟩ ⟨w', mem', inn', c'⟩ ts fuel k; have hm : maxLen = 9223372036854775807 := rfl; simp; omega)
    | exact row_fin (by rw [show k = ts.length from by omega])
    | skip
set_option maxRecDepth 100000 in
theorem i_KillsOf0 (w mem inn : Int) (c : List V.Ins) (w' mem' inn' : Int) (c' : List V.Ins) (ts : List (List Int)) (fuel : Int) (hk : killOk ⟨w, mem, inn, c⟩ ⟨w', mem', inn', c'⟩ ts fuel = false) : CallsV Try.prog 15 [.agg [.dat (.i w), .dat (.i mem), .dat (.i inn), .dat (.seq .inss c)], .agg [.dat (.i w'), .dat (.i mem'), .dat (.i inn'), .dat (.seq .inss c')], .dat (.seq .intss ts), .dat (.i fuel)] (.nils) := by
  refine CallsV.of_awp tauOk mixOk Try.func15 rfl rfl rfl ?_
  conv => whnf
  repeat' (first
    | ((with_reducible refine Alt.l ?_); conv => whnf)
    | ((with_reducible refine fun (K1 : AX → AState → Prop) hK => ?_); conv => whnf)
    | ((with_reducible show K1 _ _); subst hK; conv => whnf)
    | (with_reducible exact rfl)
    | ((with_reducible refine sp_T ?_); conv => whnf)
    | ((with_reducible refine sp_F ?_); conv => whnf)
    | ((with_reducible refine sp_T' ?_); conv => whnf)
    | ((with_reducible refine sp_F' ?_); conv => whnf)
    | ((with_reducible refine sp_dF ?_ ?_); decide; conv => whnf)
    | ((with_reducible refine sp_dT ?_ ?_); decide; conv => whnf)
    | ((with_reducible refine sp_d (fun h => ?_) (fun h => ?_)) <;> first | contradiction | (subst h; conv => whnf) | (conv => whnf))
    | ((with_reducible refine sp_d' (fun h => ?_) (fun h => ?_)) <;> first | contradiction | (subst h; conv => whnf) | (conv => whnf))
    | ((with_reducible refine sp_eF ?_ ?_); decide; conv => whnf)
    | ((with_reducible refine sp_eT ?_); conv => whnf)
    | ((with_reducible refine sp_e (fun h => ?_) (fun h => ?_)) <;> first | contradiction | (subst h; conv => whnf) | (conv => whnf))
    | ((with_reducible refine sp_e' (fun h => ?_) (fun h => ?_)) <;> first | contradiction | (subst h; conv => whnf) | (conv => whnf))
    | ((with_reducible refine sp_n (fun h => ?_) (fun h => ?_)) <;> first | contradiction | (subst h; conv => whnf) | (conv => whnf))
    | ((with_reducible refine sp_n' (fun h => ?_) (fun h => ?_)) <;> first | contradiction | (subst h; conv => whnf) | (conv => whnf))
    | ((with_reducible refine sp_nb (fun h => ?_) (fun h => ?_)) <;> first | contradiction | (exact Bool.noConfusion (Eq.trans (Eq.symm h) (show _ = true by assumption))) | (exact Bool.noConfusion (Eq.trans (Eq.symm (show _ = false by assumption)) h)) | (conv => whnf))
    | ((with_reducible refine sp_nb' (fun h => ?_) (fun h => ?_)) <;> first | contradiction | (exact Bool.noConfusion (Eq.trans (Eq.symm h) (show _ = true by assumption))) | (exact Bool.noConfusion (Eq.trans (Eq.symm (show _ = false by assumption)) h)) | (conv => whnf))
    | ((with_reducible refine sp_b (fun h => ?_) (fun h => ?_)) <;> first | contradiction | (exact Bool.noConfusion (Eq.trans (Eq.symm h) (show _ = true by assumption))) | (exact Bool.noConfusion (Eq.trans (Eq.symm (show _ = false by assumption)) h)) | (conv => whnf))
    | ((with_reducible refine sp_b' (fun h => ?_) (fun h => ?_)) <;> first | contradiction | (exact Bool.noConfusion (Eq.trans (Eq.symm h) (show _ = true by assumption))) | (exact Bool.noConfusion (Eq.trans (Eq.symm (show _ = false by assumption)) h)) | (conv => whnf))
    | (refine ⟨(rfl : nodupB _ = true), rfl, ?_⟩; conv => whnf)
    | (with_reducible refine bnd2 ?_ ?_)
    | (with_reducible refine bnd2' ?_ ?_)
    | (with_reducible refine bndN ?_ ?_)
    | ((with_reducible refine and_of ?_ ?_); conv => whnf)
    | ((with_reducible refine pcI (g := 57) ?_); refine ⟨_, i_ProgramOk .., rfl, ?_⟩; rotate_right; conv => whnf)
    | ((with_reducible show Exists _); refine Exists.intro _ (And.intro (i_ProgramOk ..) (And.intro rfl ?_)); rotate_right; conv => whnf)
    | ((with_reducible refine pcI (g := 66) ?_); refine ⟨_, i_testsOk .., rfl, ?_⟩; rotate_right; conv => whnf)
    | ((with_reducible show Exists _); refine Exists.intro _ (And.intro (i_testsOk ..) (And.intro rfl ?_)); rotate_right; conv => whnf)
    | ((with_reducible refine pcI (g := 67) ?_); refine ⟨_, i_fuelOk .., rfl, ?_⟩; rotate_right; conv => whnf)
    | ((with_reducible show Exists _); refine Exists.intro _ (And.intro (i_fuelOk ..) (And.intro rfl ?_)); rotate_right; conv => whnf)
    | ((with_reducible refine pcI (g := 68) ?_); refine ⟨_, i_SameRun .., rfl, ?_⟩; rotate_right; conv => whnf)
    | ((with_reducible show Exists _); refine Exists.intro _ (And.intro (i_SameRun ..) (And.intro rfl ?_)); rotate_right; conv => whnf)
    | ((with_reducible refine pcI (g := 30) ?_); refine ⟨_, i_RunProgram1 (hp := by assumption) (hi := by assumption) (h0 := by assumption) (h1 := by assumption) .., rfl, ?_⟩; rotate_right; conv => whnf)
    | ((with_reducible show Exists _); refine Exists.intro _ (And.intro (i_RunProgram1 (hp := by assumption) (hi := by assumption) (h0 := by assumption) (h1 := by assumption) ..) (And.intro rfl ?_)); rotate_right; conv => whnf)
    | ((with_reducible refine pcI (g := 30) ?_); refine ⟨_, i_RunProgram (hi := ?_) (h0 := ?_) (h1 := ?_) .., rfl, ?_⟩; rotate_right; conv => whnf)
    | ((with_reducible show Exists _); refine Exists.intro _ (And.intro (i_RunProgram (hi := ?_) (h0 := ?_) (h1 := ?_) ..) (And.intro rfl ?_)); rotate_right; conv => whnf)
    | ((with_reducible show awpOps _ _ _ _ _ _); conv => whnf)
    | (intro h; conv => whnf))
  all_goals (repeat (clear hK; clear K1))
  all_goals first | rfl | trivial | (exfalso; simp [killOk, *] at hk; done) | skip
def killsP (p q : V.Prog) (ts : List (List Int)) (fuel : Int) : List Int := if killOk p q ts fuel then killsTo p q ts fuel ts.length else []
theorem killOk_of {p q : V.Prog} {ts : List (List Int)} {fuel : Int} (h : killOk p q ts fuel = true) : progP p = true ∧ progP q = true ∧ ts.all (fun x => inputsP p x) = true ∧ ts.all (fun x => inputsP q x) = true ∧ inP fuel 0 400 = true := by
  simp only [killOk, Bool.and_eq_true] at h
  exact ⟨h.1.1.1.1, h.1.1.1.2, h.1.1.2, h.1.2, h.2⟩
theorem iv_KillsOf (w mem inn : Int) (c : List V.Ins) (w' mem' inn' : Int) (c' : List V.Ins) (ts : List (List Int)) (fuel : Int) (hl : ts.length ≤ 1048576) : CallsV Try.prog 15 [.agg [.dat (.i w), .dat (.i mem), .dat (.i inn), .dat (.seq .inss c)], .agg [.dat (.i w'), .dat (.i mem'), .dat (.i inn'), .dat (.seq .inss c')], .dat (.seq .intss ts), .dat (.i fuel)] (.dat (.seq .ints (killsP ⟨w, mem, inn, c⟩ ⟨w', mem', inn', c'⟩ ts fuel))) := by
  cases h : killOk ⟨w, mem, inn, c⟩ ⟨w', mem', inn', c'⟩ ts fuel with
  | false => exact CallsF.toV (i_KillsOf0 (hk := h) ..) (fun res B hR => by obtain ⟨rfl, _⟩ := hR; show (killsP _ _ _ _).length = 0; rw [killsP, h]; rfl)
  | true =>
    obtain ⟨h1, h2, h3, h4, h5⟩ := killOk_of h
    exact CallsF.toV (i_KillsOf1 (h1 := h1) (h2 := h2) (h3 := h3) (h4 := h4) (h5 := h5) (hl := hl) ..) (fun res B hR => by obtain ⟨rfl, rfl⟩ := hR; show Dat.seq _ _ = Dat.seq _ _; rw [killsP, h]; rfl)
theorem iv_MutantsOf (w mem inn : Int) (c : List V.Ins) : CallsV Try.prog 10 [.agg [.dat (.i w), .dat (.i mem), .dat (.i inn), .dat (.seq .inss c)]] (.dat (.seq .progs (mutsP ⟨w, mem, inn, c⟩))) := by
  cases h : progP ⟨w, mem, inn, c⟩ with
  | false => exact CallsF.toV (i_MutantsOf0 (hp := h) ..) (fun res B hR => by obtain ⟨rfl, _⟩ := hR; show (mutsP _).length = 0; rw [mutsP, h]; rfl)
  | true => exact CallsF.toV (i_MutantsOf (hp := h) ..) (fun res B hR => by obtain ⟨rfl, _⟩ := hR; show Dat.seq _ _ = Dat.seq _ _; rw [mutsP, h]; rfl)
theorem sv_MutantsOf (w mem inn : Int) (c : List V.Ins) : CallsV Try.prog 11 [.agg [.dat (.i w), .dat (.i mem), .dat (.i inn), .dat (.seq .inss c)]] (.dat (.seq .progs (mutsP ⟨w, mem, inn, c⟩))) := by
  cases h : progP ⟨w, mem, inn, c⟩ with
  | false => exact CallsF.toV (s_MutantsOf0 (hp := h) ..) (fun res B hR => by obtain ⟨rfl, _⟩ := hR; show (mutsP _).length = 0; rw [mutsP, h]; rfl)
  | true => exact CallsF.toV (s_MutantsOf (hp := h) ..) (fun res B hR => by obtain ⟨rfl, _⟩ := hR; show Dat.seq _ _ = Dat.seq _ _; rw [mutsP, h]; rfl)
end Vg
