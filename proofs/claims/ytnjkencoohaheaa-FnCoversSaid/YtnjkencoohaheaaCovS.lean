/- The edges of runs: contracts of l09Cover. Condition: the program and the inputs are in order. -/
import Derived.Test.YtnjkencoohaheaaCov
namespace Vg
open Go Go.Proofs
theorem ins_yes {w mem inn : Int} {c : List V.Ins} {inp l : List Int} {k : Nat} (hi : inputsP ⟨w, mem, inn, c⟩ inp = true) (h1 : (runM ⟨w, mem, inn, c⟩ inp k).code = 0) (h2 : (runM ⟨w, mem, inn, c⟩ inp k).steps < 400)
    (h3 : (runM ⟨w, mem, inn, c⟩ inp k).pc < c.length) (h4 : (c.getD (runM ⟨w, mem, inn, c⟩ inp k).pc.toNat K.inss.dflt).op = 10) :
    insA l (rawTo ⟨w, mem, inn, c⟩ inp (k + 1)) = insM (IntKind.i64.wrap (IntKind.i64.wrap (2 * (runM ⟨w, mem, inn, c⟩ inp k).pc) + truthP ((runM ⟨w, mem, inn, c⟩ inp k).regs.getD (c.getD (runM ⟨w, mem, inn, c⟩ inp k).pc.toNat K.inss.dflt).a.toNat K.ints.dflt == 0))) (insA l (rawTo ⟨w, mem, inn, c⟩ inp k)) := by
  rw [raw_yes hi (by rw [decide_eq_true h1, decide_eq_true h2]; rfl) h3 h4, insA_append]; rfl
theorem raw_no2 {p : V.Prog} {inp : List Int} {k : Nat} (h : ¬ (runM p inp k).steps < 400) : rawTo p inp (k + 1) = rawTo p inp k := by
  show rawTo p inp k ++ edgeAt p (runM p inp k) = _
  rw [edge_no (fun x => h x.2.1), List.append_nil]
theorem raw_pc {w mem inn : Int} {c : List V.Ins} {inp : List Int} {k m : Nat} (hi : inputsP ⟨w, mem, inn, c⟩ inp = true) (h : ¬ (runM ⟨w, mem, inn, c⟩ inp k).pc < c.length) (hm : k ≤ m) : rawTo ⟨w, mem, inn, c⟩ inp m = rawTo ⟨w, mem, inn, c⟩ inp k :=
  raw_end (by have := (run_ok hi k).pc.2; simp only at this ⊢; omega) hm
set_option maxHeartbeats 8000000 in
set_option maxRecDepth 100000 in
theorem s_CoverN (w mem inn : Int) (c : List V.Ins) (inp : List Int) (fuel : Int) (hp : progP ⟨w, mem, inn, c⟩ = true) (hi : inputsP ⟨w, mem, inn, c⟩ inp = true) (hf : inP fuel 0 400 = true) : CallsG Try.prog 94 [.agg [.dat (.i w), .dat (.i mem), .dat (.i inn), .dat (.seq .inss c)], .dat (.seq .ints inp), .dat (.i fuel), .nils] [] 0 (fun res B => res = .row 0 ∧ B = [.row 3 .ints (insA [] (rawTo ⟨w, mem, inn, c⟩ inp fuel.toNat)) false]) := by
  refine CallsG.of_awp tauOk mixOk Try.func94 rfl rfl rfl ?_
  conv => whnf
  repeat' (first
    | ((with_reducible refine Alt.r ?_); conv => whnf)
    | ((with_reducible refine fun (K1 : AX → AState → Prop) hK => ?_); conv => whnf)
    | ((with_reducible show K1 _ _); subst hK; conv => whnf)
    | (with_reducible exact rfl)
    | ((with_reducible refine sp_T ?_); conv => whnf)
    | ((with_reducible refine sp_F ?_); conv => whnf)
    | ((with_reducible refine sp_T' ?_); conv => whnf)
    | ((with_reducible refine sp_F' ?_); conv => whnf)
    | ((with_reducible refine sp_dF ?_ ?_); decide; conv => whnf)
    | ((with_reducible refine sp_dT ?_ ?_); decide; conv => whnf)
    | ((with_reducible refine sp_d (fun h => ?_) (fun h => ?_)) <;> first | contradiction | (subst h; conv => whnf) | (conv => whnf))
    | ((with_reducible refine sp_d' (fun h => ?_) (fun h => ?_)) <;> first | contradiction | (subst h; conv => whnf) | (conv => whnf))
    | ((with_reducible refine sp_eF ?_ ?_); decide; conv => whnf)
    | ((with_reducible refine sp_eT ?_); conv => whnf)
    | ((with_reducible refine sp_e (fun h => ?_) (fun h => ?_)) <;> first | contradiction | (subst h; conv => whnf) | (conv => whnf))
    | ((with_reducible refine sp_e' (fun h => ?_) (fun h => ?_)) <;> first | contradiction | (subst h; conv => whnf) | (conv => whnf))
    | ((with_reducible refine sp_n (fun h => ?_) (fun h => ?_)) <;> first | contradiction | (subst h; conv => whnf) | (conv => whnf))
    | ((with_reducible refine sp_n' (fun h => ?_) (fun h => ?_)) <;> first | contradiction | (subst h; conv => whnf) | (conv => whnf))
    | ((with_reducible refine sp_nb (fun h => ?_) (fun h => ?_)) <;> first | (exact Bool.noConfusion (Eq.trans (Eq.symm h) (show _ = true by with_reducible assumption))) | (exact Bool.noConfusion (Eq.trans (Eq.symm (show _ = false by with_reducible assumption)) h)) | (conv => whnf))
    | ((with_reducible refine sp_nb' (fun h => ?_) (fun h => ?_)) <;> first | (exact Bool.noConfusion (Eq.trans (Eq.symm h) (show _ = true by with_reducible assumption))) | (exact Bool.noConfusion (Eq.trans (Eq.symm (show _ = false by with_reducible assumption)) h)) | (conv => whnf))
    | ((with_reducible refine sp_b (fun h => ?_) (fun h => ?_)) <;> first | (exact Bool.noConfusion (Eq.trans (Eq.symm h) (show _ = true by with_reducible assumption))) | (exact Bool.noConfusion (Eq.trans (Eq.symm (show _ = false by with_reducible assumption)) h)) | (conv => whnf))
    | ((with_reducible refine sp_b' (fun h => ?_) (fun h => ?_)) <;> first | (exact Bool.noConfusion (Eq.trans (Eq.symm h) (show _ = true by with_reducible assumption))) | (exact Bool.noConfusion (Eq.trans (Eq.symm (show _ = false by with_reducible assumption)) h)) | (conv => whnf))
    | (refine ⟨(rfl : nodupB _ = true), rfl, ?_⟩; conv => whnf)
    | (with_reducible refine bnd2 ?_ ?_)
    | (with_reducible refine bnd2' ?_ ?_)
    | (with_reducible refine bndN ?_ ?_)
    | ((with_reducible refine and_of ?_ ?_); conv => whnf)
    | (refine Exists.intro ({k : Nat // k ≤ fuel.toNat}) (Exists.intro (fun ⟨k, hk⟩ => mkS Try.f94.ntmps [(1, .dat (.seq .ints inp)), (2, .dat (.i fuel)), (3, .row 107), (4, .ptr 4 0), (9, .ptr 9 0), (10, .dat (.i k))] [(4, .box [.dat (.i w), .dat (.i mem), .dat (.i inn), .dat (.seq .inss c)]), (9, .box [.dat (.i (runM ⟨w, mem, inn, c⟩ inp k).pc), .row 101, .row 102, .row 103, .dat (.i (runM ⟨w, mem, inn, c⟩ inp k).inn), .row 104, .dat (.i (runM ⟨w, mem, inn, c⟩ inp k).code), .dat (.i (runM ⟨w, mem, inn, c⟩ inp k).steps)]), (101, .row 3 .ints (runM ⟨w, mem, inn, c⟩ inp k).regs false), (102, .row 3 .ints (runM ⟨w, mem, inn, c⟩ inp k).mem false), (103, .row 3 .ints (runM ⟨w, mem, inn, c⟩ inp k).stack false), (104, .row 3 .ints (runM ⟨w, mem, inn, c⟩ inp k).out false), (107, .row 3 .ints (insA [] (rawTo ⟨w, mem, inn, c⟩ inp k)) false)]) (Exists.intro (fun ⟨k, hk⟩ => fuel.toNat - k) (Exists.intro ⟨0, Nat.zero_le _⟩ (And.intro (SubP.sub (σ := [(4, some 4), (9, some 9), (101, some 14000), (102, some 14001), (103, none), (104, none), (107, none)]) ⟨⟨rfl, rfl, rfl⟩, ⟨(wk_dat ?_), (wk_dat ?_), rfl, ⟨rfl, rfl⟩, ⟨rfl, rfl⟩, (wk_dat ?_), trivial⟩, ⟨⟨(wkC_dat ?_), (wkC_dat ?_), (wkC_dat ?_), (wkC_dat ?_), trivial⟩, ⟨(wkC_dat ?_), rfl, rfl, rfl, (wkC_dat ?_), rfl, (wkC_dat ?_), (wkC_dat ?_), trivial⟩, ⟨⟨rfl, rfl⟩, ?_⟩, ⟨⟨rfl, rfl⟩, ?_⟩, ?_, ?_, ?_, trivial⟩⟩) (fun ⟨k, hk⟩ => ?_))))); rotate_right; conv => whnf)
    | (refine Exists.intro ⟨k + 1, ?_⟩ (And.intro ?_ (SubP.sub (σ := [(4, some 4), (9, some 9), (101, some 64000), (102, some 64001), (103, some 64002), (104, some 64003), (107, some 107)]) ⟨⟨rfl, rfl, rfl⟩, ⟨(wk_dat ?_), (wk_dat ?_), rfl, ⟨rfl, rfl⟩, ⟨rfl, rfl⟩, (wk_dat ?_), trivial⟩, ⟨⟨(wkC_dat ?_), (wkC_dat ?_), (wkC_dat ?_), (wkC_dat ?_), trivial⟩, ⟨(wkC_dat ?_), rfl, rfl, rfl, (wkC_dat ?_), rfl, (wkC_dat ?_), (wkC_dat ?_), trivial⟩, ⟨⟨rfl, rfl⟩, ?_⟩, ⟨⟨rfl, rfl⟩, ?_⟩, ⟨⟨rfl, rfl⟩, ?_⟩, ⟨⟨rfl, rfl⟩, ?_⟩, ⟨⟨rfl, rfl⟩, ?_⟩, trivial⟩⟩)))
    | (refine Exists.intro ⟨k + 1, ?_⟩ (And.intro ?_ (SubP.sub (σ := [(4, some 4), (9, some 9), (101, some 64000), (102, some 64001), (103, some 64002), (104, some 64003), (107, some 60000)]) ⟨⟨rfl, rfl, rfl⟩, ⟨(wk_dat ?_), (wk_dat ?_), rfl, ⟨rfl, rfl⟩, ⟨rfl, rfl⟩, (wk_dat ?_), trivial⟩, ⟨⟨(wkC_dat ?_), (wkC_dat ?_), (wkC_dat ?_), (wkC_dat ?_), trivial⟩, ⟨(wkC_dat ?_), rfl, rfl, rfl, (wkC_dat ?_), rfl, (wkC_dat ?_), (wkC_dat ?_), trivial⟩, ⟨⟨rfl, rfl⟩, ?_⟩, ⟨⟨rfl, rfl⟩, ?_⟩, ⟨⟨rfl, rfl⟩, ?_⟩, ⟨⟨rfl, rfl⟩, ?_⟩, ⟨⟨rfl, rfl⟩, ?_⟩, trivial⟩⟩)))
    | ((with_reducible refine fcI (g := 71) ?_); refine ⟨_, _, s_NewState (hp := by assumption) .., rfl, fun res B hRB => ?_⟩; rotate_right; obtain ⟨rfl, rfl⟩ := hRB; conv => whnf)
    | ((with_reducible refine gcI (g := 124) ?_); refine ⟨_, _, s_Insert (hl := ?_) .., fun res B hRB => ?_⟩; rotate_right; obtain ⟨rfl, rfl⟩ := hRB; conv => whnf)
    | ((with_reducible refine pcI (g := 125) ?_); refine ⟨_, s_l01Truth .., rfl, ?_⟩; rotate_right; conv => whnf)
    | ((with_reducible show Exists _); refine Exists.intro _ (And.intro (s_l01Truth ..) (And.intro rfl ?_)); rotate_right; conv => whnf)
    | ((with_reducible refine gcI (g := 72) ?_); refine ⟨_, _, s_l05Step (hp := ?_) (hM := ?_) (hin := ?_) (_hiw := ?_) .., fun res B hRB => ?_⟩; rotate_right; obtain ⟨rfl, rfl⟩ := hRB; conv => whnf)
    | ((with_reducible show awpOps _ _ _ _ _ _); conv => whnf)
    | (intro h; conv => whnf))
  all_goals (repeat (clear hK; clear K1))
  all_goals first
    | (with_reducible rfl)
    | (with_reducible assumption)
    | (show Dat.i (runM ⟨w, mem, inn, c⟩ inp (k + 1)).pc = _; rfl)
    | (show Dat.i (runM ⟨w, mem, inn, c⟩ inp 0).pc = _; rfl)
    | (show Dat.i (runM ⟨w, mem, inn, c⟩ inp (k + 1)).inn = _; rfl)
    | (show Dat.i (runM ⟨w, mem, inn, c⟩ inp 0).inn = _; rfl)
    | (show Dat.i (runM ⟨w, mem, inn, c⟩ inp (k + 1)).code = _; rfl)
    | (show Dat.i (runM ⟨w, mem, inn, c⟩ inp 0).code = _; rfl)
    | (show Dat.i (runM ⟨w, mem, inn, c⟩ inp (k + 1)).steps = _; rfl)
    | (show Dat.i (runM ⟨w, mem, inn, c⟩ inp 0).steps = _; rfl)
    | (show (⟨K.ints, (runM ⟨w, mem, inn, c⟩ inp (k + 1)).regs⟩ : (κ : K) × List κ.T) = _; rfl)
    | (show (⟨K.ints, (runM ⟨w, mem, inn, c⟩ inp 0).regs⟩ : (κ : K) × List κ.T) = _; rfl)
    | (show (⟨K.ints, (runM ⟨w, mem, inn, c⟩ inp (k + 1)).mem⟩ : (κ : K) × List κ.T) = _; rfl)
    | (show (⟨K.ints, (runM ⟨w, mem, inn, c⟩ inp 0).mem⟩ : (κ : K) × List κ.T) = _; rfl)
    | (show (⟨K.ints, (runM ⟨w, mem, inn, c⟩ inp (k + 1)).stack⟩ : (κ : K) × List κ.T) = _; rfl)
    | (show (⟨K.ints, (runM ⟨w, mem, inn, c⟩ inp 0).stack⟩ : (κ : K) × List κ.T) = _; rfl)
    | (show (⟨K.ints, (runM ⟨w, mem, inn, c⟩ inp (k + 1)).out⟩ : (κ : K) × List κ.T) = _; rfl)
    | (show (⟨K.ints, (runM ⟨w, mem, inn, c⟩ inp 0).out⟩ : (κ : K) × List κ.T) = _; rfl)
    | exact run_ok hi k
    | exact inp_len hi
    | exact inp_w hi
    | exact inp_w hi _ (by with_reducible assumption)
    | exact (rfl : Dat.i ((0 : Nat) : Int) = Dat.int .i64 0)
    | (have q := cfuel_b hf; omega)
    | (have q := cfuel_b hf; dsimp only; omega)
    | (have q := cfuel_b hf; exact congrArg (Dat.int .i64) (wrap_id (by omega) (by omega)).symm)
    | exact (run_ok hi k).pc.1
    | exact (cov_a hp (run_ok hi k).pc.1 (by with_reducible assumption) (by with_reducible assumption)).1
    | (have q := (cov_a hp (run_ok hi k).pc.1 (by with_reducible assumption) (by with_reducible assumption)); have q2 := (run_ok hi k).regs; omega)
    | exact sig_fin (ins_yes hi (by with_reducible assumption) (by with_reducible assumption) (by with_reducible assumption) (by with_reducible assumption))
    | exact sig_fin (congrArg (insA []) (raw_no (fun x => absurd x.2 (by with_reducible assumption))))
    | exact sig_fin (congrArg (insA []) (raw_no2 (by with_reducible assumption)))
    | (have q := raw_len ⟨w, mem, inn, c⟩ inp k; have q2 := cfuel_b hf; have q3 := insA_len (xs := rawTo ⟨w, mem, inn, c⟩ inp k) (l := []); have q4 : ([] : List Int).length ≤ 1000000 := (Nat.zero_le _); show (insA [] (rawTo ⟨w, mem, inn, c⟩ inp k)).length ≤ 1048576; omega)
    | exact row_fin (congrArg (insA []) (raw_all hk (by with_reducible assumption)))
    | exact row_fin (congrArg (insA []) (raw_fix (fun x => absurd x.1 (by with_reducible assumption)) hk)).symm
    | exact row_fin (congrArg (insA []) (raw_pc hi (by with_reducible assumption) hk)).symm
    | exact (rfl : AV.num [107] (AV.row 107) = AV.row 0)
    | exact rfl
    | skip
set_option maxHeartbeats 8000000 in
set_option maxRecDepth 100000 in
theorem s_CoverG (w mem inn : Int) (c : List V.Ins) (inp : List Int) (fuel : Int) (l : List Int) (hl : l.length ≤ 1000000) (hp : progP ⟨w, mem, inn, c⟩ = true) (hi : inputsP ⟨w, mem, inn, c⟩ inp = true) (hf : inP fuel 0 400 = true) : CallsG Try.prog 94 [.agg [.dat (.i w), .dat (.i mem), .dat (.i inn), .dat (.seq .inss c)], .dat (.seq .ints inp), .dat (.i fuel), .row 0] [.row 3 .ints l false] 0 (fun res B => res = .row 0 ∧ B = [.row 3 .ints (insA l (rawTo ⟨w, mem, inn, c⟩ inp fuel.toNat)) false]) := by
  refine CallsG.of_awp tauOk mixOk Try.func94 rfl rfl rfl ?_
  conv => whnf
  repeat' (first
    | ((with_reducible refine Alt.r ?_); conv => whnf)
    | ((with_reducible refine fun (K1 : AX → AState → Prop) hK => ?_); conv => whnf)
    | ((with_reducible show K1 _ _); subst hK; conv => whnf)
    | (with_reducible exact rfl)
    | ((with_reducible refine sp_T ?_); conv => whnf)
    | ((with_reducible refine sp_F ?_); conv => whnf)
    | ((with_reducible refine sp_T' ?_); conv => whnf)
    | ((with_reducible refine sp_F' ?_); conv => whnf)
    | ((with_reducible refine sp_dF ?_ ?_); decide; conv => whnf)
    | ((with_reducible refine sp_dT ?_ ?_); decide; conv => whnf)
    | ((with_reducible refine sp_d (fun h => ?_) (fun h => ?_)) <;> first | contradiction | (subst h; conv => whnf) | (conv => whnf))
    | ((with_reducible refine sp_d' (fun h => ?_) (fun h => ?_)) <;> first | contradiction | (subst h; conv => whnf) | (conv => whnf))
    | ((with_reducible refine sp_eF ?_ ?_); decide; conv => whnf)
    | ((with_reducible refine sp_eT ?_); conv => whnf)
    | ((with_reducible refine sp_e (fun h => ?_) (fun h => ?_)) <;> first | contradiction | (subst h; conv => whnf) | (conv => whnf))
    | ((with_reducible refine sp_e' (fun h => ?_) (fun h => ?_)) <;> first | contradiction | (subst h; conv => whnf) | (conv => whnf))
    | ((with_reducible refine sp_n (fun h => ?_) (fun h => ?_)) <;> first | contradiction | (subst h; conv => whnf) | (conv => whnf))
    | ((with_reducible refine sp_n' (fun h => ?_) (fun h => ?_)) <;> first | contradiction | (subst h; conv => whnf) | (conv => whnf))
    | ((with_reducible refine sp_nb (fun h => ?_) (fun h => ?_)) <;> first | (exact Bool.noConfusion (Eq.trans (Eq.symm h) (show _ = true by with_reducible assumption))) | (exact Bool.noConfusion (Eq.trans (Eq.symm (show _ = false by with_reducible assumption)) h)) | (conv => whnf))
    | ((with_reducible refine sp_nb' (fun h => ?_) (fun h => ?_)) <;> first | (exact Bool.noConfusion (Eq.trans (Eq.symm h) (show _ = true by with_reducible assumption))) | (exact Bool.noConfusion (Eq.trans (Eq.symm (show _ = false by with_reducible assumption)) h)) | (conv => whnf))
    | ((with_reducible refine sp_b (fun h => ?_) (fun h => ?_)) <;> first | (exact Bool.noConfusion (Eq.trans (Eq.symm h) (show _ = true by with_reducible assumption))) | (exact Bool.noConfusion (Eq.trans (Eq.symm (show _ = false by with_reducible assumption)) h)) | (conv => whnf))
    | ((with_reducible refine sp_b' (fun h => ?_) (fun h => ?_)) <;> first | (exact Bool.noConfusion (Eq.trans (Eq.symm h) (show _ = true by with_reducible assumption))) | (exact Bool.noConfusion (Eq.trans (Eq.symm (show _ = false by with_reducible assumption)) h)) | (conv => whnf))
    | (refine ⟨(rfl : nodupB _ = true), rfl, ?_⟩; conv => whnf)
    | (with_reducible refine bnd2 ?_ ?_)
    | (with_reducible refine bnd2' ?_ ?_)
    | (with_reducible refine bndN ?_ ?_)
    | ((with_reducible refine and_of ?_ ?_); conv => whnf)
    | (refine Exists.intro ({k : Nat // k ≤ fuel.toNat}) (Exists.intro (fun ⟨k, hk⟩ => mkS Try.f94.ntmps [(1, .dat (.seq .ints inp)), (2, .dat (.i fuel)), (3, .row 107), (4, .ptr 4 0), (9, .ptr 9 0), (10, .dat (.i k))] [(4, .box [.dat (.i w), .dat (.i mem), .dat (.i inn), .dat (.seq .inss c)]), (9, .box [.dat (.i (runM ⟨w, mem, inn, c⟩ inp k).pc), .row 101, .row 102, .row 103, .dat (.i (runM ⟨w, mem, inn, c⟩ inp k).inn), .row 104, .dat (.i (runM ⟨w, mem, inn, c⟩ inp k).code), .dat (.i (runM ⟨w, mem, inn, c⟩ inp k).steps)]), (101, .row 3 .ints (runM ⟨w, mem, inn, c⟩ inp k).regs false), (102, .row 3 .ints (runM ⟨w, mem, inn, c⟩ inp k).mem false), (103, .row 3 .ints (runM ⟨w, mem, inn, c⟩ inp k).stack false), (104, .row 3 .ints (runM ⟨w, mem, inn, c⟩ inp k).out false), (107, .row 3 .ints (insA l (rawTo ⟨w, mem, inn, c⟩ inp k)) false)]) (Exists.intro (fun ⟨k, hk⟩ => fuel.toNat - k) (Exists.intro ⟨0, Nat.zero_le _⟩ (And.intro (SubP.sub (σ := [(4, some 4), (9, some 9), (101, some 14000), (102, some 14001), (103, none), (104, none), (107, some 900000)]) ⟨⟨rfl, rfl, rfl⟩, ⟨(wk_dat ?_), (wk_dat ?_), rfl, ⟨rfl, rfl⟩, ⟨rfl, rfl⟩, (wk_dat ?_), trivial⟩, ⟨⟨(wkC_dat ?_), (wkC_dat ?_), (wkC_dat ?_), (wkC_dat ?_), trivial⟩, ⟨(wkC_dat ?_), rfl, rfl, rfl, (wkC_dat ?_), rfl, (wkC_dat ?_), (wkC_dat ?_), trivial⟩, ⟨⟨rfl, rfl⟩, ?_⟩, ⟨⟨rfl, rfl⟩, ?_⟩, ?_, ?_, ⟨⟨rfl, rfl⟩, ?_⟩, trivial⟩⟩) (fun ⟨k, hk⟩ => ?_))))); rotate_right; conv => whnf)
    | (refine Exists.intro ⟨k + 1, ?_⟩ (And.intro ?_ (SubP.sub (σ := [(4, some 4), (9, some 9), (101, some 64000), (102, some 64001), (103, some 64002), (104, some 64003), (107, some 107)]) ⟨⟨rfl, rfl, rfl⟩, ⟨(wk_dat ?_), (wk_dat ?_), rfl, ⟨rfl, rfl⟩, ⟨rfl, rfl⟩, (wk_dat ?_), trivial⟩, ⟨⟨(wkC_dat ?_), (wkC_dat ?_), (wkC_dat ?_), (wkC_dat ?_), trivial⟩, ⟨(wkC_dat ?_), rfl, rfl, rfl, (wkC_dat ?_), rfl, (wkC_dat ?_), (wkC_dat ?_), trivial⟩, ⟨⟨rfl, rfl⟩, ?_⟩, ⟨⟨rfl, rfl⟩, ?_⟩, ⟨⟨rfl, rfl⟩, ?_⟩, ⟨⟨rfl, rfl⟩, ?_⟩, ⟨⟨rfl, rfl⟩, ?_⟩, trivial⟩⟩)))
    | (refine Exists.intro ⟨k + 1, ?_⟩ (And.intro ?_ (SubP.sub (σ := [(4, some 4), (9, some 9), (101, some 64000), (102, some 64001), (103, some 64002), (104, some 64003), (107, some 60000)]) ⟨⟨rfl, rfl, rfl⟩, ⟨(wk_dat ?_), (wk_dat ?_), rfl, ⟨rfl, rfl⟩, ⟨rfl, rfl⟩, (wk_dat ?_), trivial⟩, ⟨⟨(wkC_dat ?_), (wkC_dat ?_), (wkC_dat ?_), (wkC_dat ?_), trivial⟩, ⟨(wkC_dat ?_), rfl, rfl, rfl, (wkC_dat ?_), rfl, (wkC_dat ?_), (wkC_dat ?_), trivial⟩, ⟨⟨rfl, rfl⟩, ?_⟩, ⟨⟨rfl, rfl⟩, ?_⟩, ⟨⟨rfl, rfl⟩, ?_⟩, ⟨⟨rfl, rfl⟩, ?_⟩, ⟨⟨rfl, rfl⟩, ?_⟩, trivial⟩⟩)))
    | ((with_reducible refine fcI (g := 71) ?_); refine ⟨_, _, s_NewState (hp := by assumption) .., rfl, fun res B hRB => ?_⟩; rotate_right; obtain ⟨rfl, rfl⟩ := hRB; conv => whnf)
    | ((with_reducible refine gcI (g := 124) ?_); refine ⟨_, _, s_Insert (hl := ?_) .., fun res B hRB => ?_⟩; rotate_right; obtain ⟨rfl, rfl⟩ := hRB; conv => whnf)
    | ((with_reducible refine pcI (g := 125) ?_); refine ⟨_, s_l01Truth .., rfl, ?_⟩; rotate_right; conv => whnf)
    | ((with_reducible show Exists _); refine Exists.intro _ (And.intro (s_l01Truth ..) (And.intro rfl ?_)); rotate_right; conv => whnf)
    | ((with_reducible refine gcI (g := 72) ?_); refine ⟨_, _, s_l05Step (hp := ?_) (hM := ?_) (hin := ?_) (_hiw := ?_) .., fun res B hRB => ?_⟩; rotate_right; obtain ⟨rfl, rfl⟩ := hRB; conv => whnf)
    | ((with_reducible show awpOps _ _ _ _ _ _); conv => whnf)
    | (intro h; conv => whnf))
  all_goals (repeat (clear hK; clear K1))
  all_goals first
    | (with_reducible rfl)
    | (with_reducible assumption)
    | (show Dat.i (runM ⟨w, mem, inn, c⟩ inp (k + 1)).pc = _; rfl)
    | (show Dat.i (runM ⟨w, mem, inn, c⟩ inp 0).pc = _; rfl)
    | (show Dat.i (runM ⟨w, mem, inn, c⟩ inp (k + 1)).inn = _; rfl)
    | (show Dat.i (runM ⟨w, mem, inn, c⟩ inp 0).inn = _; rfl)
    | (show Dat.i (runM ⟨w, mem, inn, c⟩ inp (k + 1)).code = _; rfl)
    | (show Dat.i (runM ⟨w, mem, inn, c⟩ inp 0).code = _; rfl)
    | (show Dat.i (runM ⟨w, mem, inn, c⟩ inp (k + 1)).steps = _; rfl)
    | (show Dat.i (runM ⟨w, mem, inn, c⟩ inp 0).steps = _; rfl)
    | (show (⟨K.ints, (runM ⟨w, mem, inn, c⟩ inp (k + 1)).regs⟩ : (κ : K) × List κ.T) = _; rfl)
    | (show (⟨K.ints, (runM ⟨w, mem, inn, c⟩ inp 0).regs⟩ : (κ : K) × List κ.T) = _; rfl)
    | (show (⟨K.ints, (runM ⟨w, mem, inn, c⟩ inp (k + 1)).mem⟩ : (κ : K) × List κ.T) = _; rfl)
    | (show (⟨K.ints, (runM ⟨w, mem, inn, c⟩ inp 0).mem⟩ : (κ : K) × List κ.T) = _; rfl)
    | (show (⟨K.ints, (runM ⟨w, mem, inn, c⟩ inp (k + 1)).stack⟩ : (κ : K) × List κ.T) = _; rfl)
    | (show (⟨K.ints, (runM ⟨w, mem, inn, c⟩ inp 0).stack⟩ : (κ : K) × List κ.T) = _; rfl)
    | (show (⟨K.ints, (runM ⟨w, mem, inn, c⟩ inp (k + 1)).out⟩ : (κ : K) × List κ.T) = _; rfl)
    | (show (⟨K.ints, (runM ⟨w, mem, inn, c⟩ inp 0).out⟩ : (κ : K) × List κ.T) = _; rfl)
    | exact run_ok hi k
    | exact inp_len hi
    | exact inp_w hi
    | exact inp_w hi _ (by with_reducible assumption)
    | exact (rfl : Dat.i ((0 : Nat) : Int) = Dat.int .i64 0)
    | (have q := cfuel_b hf; omega)
    | (have q := cfuel_b hf; dsimp only; omega)
    | (have q := cfuel_b hf; exact congrArg (Dat.int .i64) (wrap_id (by omega) (by omega)).symm)
    | exact (run_ok hi k).pc.1
    | exact (cov_a hp (run_ok hi k).pc.1 (by with_reducible assumption) (by with_reducible assumption)).1
    | (have q := (cov_a hp (run_ok hi k).pc.1 (by with_reducible assumption) (by with_reducible assumption)); have q2 := (run_ok hi k).regs; omega)
    | exact sig_fin (ins_yes hi (by with_reducible assumption) (by with_reducible assumption) (by with_reducible assumption) (by with_reducible assumption))
    | exact sig_fin (congrArg (insA l) (raw_no (fun x => absurd x.2 (by with_reducible assumption))))
    | exact sig_fin (congrArg (insA l) (raw_no2 (by with_reducible assumption)))
    | (have q := raw_len ⟨w, mem, inn, c⟩ inp k; have q2 := cfuel_b hf; have q3 := insA_len (xs := rawTo ⟨w, mem, inn, c⟩ inp k) (l := l); have q4 : (l : List Int).length ≤ 1000000 := hl; show (insA l (rawTo ⟨w, mem, inn, c⟩ inp k)).length ≤ 1048576; omega)
    | exact row_fin (congrArg (insA l) (raw_all hk (by with_reducible assumption)))
    | exact row_fin (congrArg (insA l) (raw_fix (fun x => absurd x.1 (by with_reducible assumption)) hk)).symm
    | exact row_fin (congrArg (insA l) (raw_pc hi (by with_reducible assumption) hk)).symm
    | exact (rfl : AV.num [107] (AV.row 107) = AV.row 0)
    | exact rfl
    | skip
end Vg
