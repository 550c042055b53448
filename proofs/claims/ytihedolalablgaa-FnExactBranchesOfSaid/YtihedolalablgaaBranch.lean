/- BranchesOf: contracts, and of the law FnExactBranchesOf. Condition: lists are no longer than the law lets through. -/
import Derived.Test.YtihedolalablgaaMark
import Derived.Test.YtihedolalablgaaSess
namespace Vg
open Go Go.Proofs

def brP (c : List V.Ins) (k : Nat) : List Int := ((List.range k).filter fun i => (c.getD i K.inss.dflt).op == 10).map fun i => ((i : Nat) : Int)
theorem brP_yes {c : List V.Ins} {k : Nat} (h : (c.getD k K.inss.dflt).op = 10) : brP c (k + 1) = brP c k ++ [(k : Int)] := by
  have h' : ((c.getD k K.inss.dflt).op == 10) = true := by simp only [h]; rfl
  simp only [brP, List.range_succ, List.filter_append, List.map_append, List.filter_cons, h', if_true, List.filter_nil, List.map_cons, List.map_nil]
theorem brP_no {c : List V.Ins} {k : Nat} (h : ¬ (c.getD k K.inss.dflt).op = 10) : brP c (k + 1) = brP c k := by
  have h' : ((c.getD k K.inss.dflt).op == 10) = false := by simpa using h
  simp only [brP, List.range_succ, List.filter_append, List.map_append, List.filter_cons, h', List.filter_nil, List.map_nil, List.append_nil, Bool.false_eq_true, if_false]
theorem brP_len (c : List V.Ins) (k : Nat) : (brP c k).length ≤ k := by
  have := List.length_filter_le (fun i => (c.getD i K.inss.dflt).op == 10) (List.range k)
  simp only [brP, List.length_map]
  simpa using this
theorem brP_end {c : List V.Ins} {k : Nat} (h : ¬ (k : Int) < c.length) (hk : k ≤ c.length) : brP c k = brP c c.length := by rw [show k = c.length from by omega]

theorem s_BranchesOf (w mem inn : Int) (c : List V.Ins) (hp : progP ⟨w, mem, inn, c⟩ = true) (hl : c.length ≤ 1048576) : CallsF Try.prog 20 [.agg [.dat (.i w), .dat (.i mem), .dat (.i inn), .dat (.seq .inss c)]] true (fun res B => res = .row 0 ∧ B = [.row 3 .ints (brP c c.length) false]) := by
  refine CallsF.of_awp tauOk mixOk Try.func20 rfl rfl rfl ?_
  conv => whnf
  repeat' (first
    | ((with_reducible refine fun (K1 : AX → AState → Prop) hK => ?_); conv => whnf)
    | ((with_reducible show K1 _ _); subst hK; conv => whnf)
    | (with_reducible exact rfl)
    | ((with_reducible refine sp_T ?_); conv => whnf)
    | ((with_reducible refine sp_F ?_); conv => whnf)
    | ((with_reducible refine sp_T' ?_); conv => whnf)
    | ((with_reducible refine sp_F' ?_); conv => whnf)
    | ((with_reducible refine sp_dF ?_ ?_); decide; conv => whnf)
    | ((with_reducible refine sp_dT ?_ ?_); decide; conv => whnf)
    | ((with_reducible refine sp_d (fun h => ?_) (fun h => ?_)) <;> first | contradiction | (subst h; conv => whnf) | (conv => whnf))
    | ((with_reducible refine sp_d' (fun h => ?_) (fun h => ?_)) <;> first | contradiction | (subst h; conv => whnf) | (conv => whnf))
    | ((with_reducible refine sp_eF ?_ ?_); decide; conv => whnf)
    | ((with_reducible refine sp_eT ?_); conv => whnf)
    | ((with_reducible refine sp_e (fun h => ?_) (fun h => ?_)) <;> first | contradiction | (subst h; conv => whnf) | (conv => whnf))
    | ((with_reducible refine sp_e' (fun h => ?_) (fun h => ?_)) <;> first | contradiction | (subst h; conv => whnf) | (conv => whnf))
    | ((with_reducible refine sp_n (fun h => ?_) (fun h => ?_)) <;> first | contradiction | (subst h; conv => whnf) | (conv => whnf))
    | ((with_reducible refine sp_n' (fun h => ?_) (fun h => ?_)) <;> first | contradiction | (subst h; conv => whnf) | (conv => whnf))
    | ((with_reducible refine sp_nb (fun h => ?_) (fun h => ?_)) <;> first | contradiction | (conv => whnf))
    | ((with_reducible refine sp_nb' (fun h => ?_) (fun h => ?_)) <;> first | contradiction | (conv => whnf))
    | ((with_reducible refine sp_b (fun h => ?_) (fun h => ?_)) <;> first | contradiction | (conv => whnf))
    | ((with_reducible refine sp_b' (fun h => ?_) (fun h => ?_)) <;> first | contradiction | (conv => whnf))
    | (refine ⟨(rfl : nodupB _ = true), rfl, ?_⟩; conv => whnf)
    | (with_reducible refine bnd2 ?_ ?_)
    | (with_reducible refine bnd2' ?_ ?_)
    | (with_reducible refine bndN ?_ ?_)
    | ((with_reducible refine and_of ?_ ?_); conv => whnf)
    | (refine Exists.intro ({k : Nat // k ≤ c.length}) (Exists.intro (fun ⟨k, hk⟩ => mkS Try.f20.ntmps [(3, .row 24), (11, .dat (.seq .inss c)), (12, .dat (.i c.length)), (13, .dat (.i k))] [(24, .row 3 .ints (brP c k) false)]) (Exists.intro (fun ⟨k, hk⟩ => c.length - k) (Exists.intro ⟨0, Nat.zero_le _⟩ (And.intro (SubP.sub (σ := [(24, some 9)]) ⟨⟨rfl, rfl, rfl⟩, ⟨rfl, (wk_dat ?_), (wk_dat ?_), (wk_dat ?_), trivial⟩, ⟨⟨⟨rfl, rfl⟩, ?_⟩, trivial⟩⟩) (fun ⟨k, hk⟩ => ?_))))); rotate_right; conv => whnf)
    | (refine Exists.intro ⟨k + 1, ?_⟩ (And.intro ?_ (SubP.sub (σ := [(24, some 24)]) ⟨⟨rfl, rfl, rfl⟩, ⟨rfl, (wk_dat ?_), (wk_dat ?_), (wk_dat ?_), trivial⟩, ⟨⟨⟨rfl, rfl⟩, ?_⟩, trivial⟩⟩)))
    | (refine Or.inl ⟨_, s_ProgramOk .., rfl, ?_⟩; rotate_right; conv => whnf)
    | (refine Exists.intro _ (And.intro (s_ProgramOk ..) (And.intro rfl ?_)); rotate_right; conv => whnf)
    | (intro h; conv => whnf))
  all_goals (repeat (clear hK; clear K1))
  all_goals first
    | rfl
    | assumption
    | exact Bool.noConfusion (h.symm.trans hp)
    | omega
    | (dsimp only; omega)
    | exact congrArg (Dat.int .i64) (wrap_succ (by assumption) (by assumption)).symm
    | exact sig_fin (brP_yes h)
    | exact sig_fin (brP_no h)
    | exact row_fin (brP_end h hk)
    | (have hb := brP_len c k; simp; omega)
    | (have hb := brP_len c k; show ((brP c k).length + [_].length) * 8 ≤ _; simp; omega)
    | (have hb := brP_len c k; have hm : maxLen = 9223372036854775807 := rfl; simp; omega)
theorem i_BranchesOf (w mem inn : Int) (c : List V.Ins) (hp : progP ⟨w, mem, inn, c⟩ = true) (hl : c.length ≤ 1048576) : CallsF Try.prog 21 [.agg [.dat (.i w), .dat (.i mem), .dat (.i inn), .dat (.seq .inss c)]] true (fun res B => res = .row 0 ∧ B = [.row 3 .ints (brP c c.length) false]) := by
  refine CallsF.of_awp tauOk mixOk Try.func21 rfl rfl rfl ?_
  conv => whnf
  repeat' (first
    | ((with_reducible refine fun (K1 : AX → AState → Prop) hK => ?_); conv => whnf)
    | ((with_reducible show K1 _ _); subst hK; conv => whnf)
    | (with_reducible exact rfl)
    | ((with_reducible refine sp_T ?_); conv => whnf)
    | ((with_reducible refine sp_F ?_); conv => whnf)
    | ((with_reducible refine sp_T' ?_); conv => whnf)
    | ((with_reducible refine sp_F' ?_); conv => whnf)
    | ((with_reducible refine sp_dF ?_ ?_); decide; conv => whnf)
    | ((with_reducible refine sp_dT ?_ ?_); decide; conv => whnf)
    | ((with_reducible refine sp_d (fun h => ?_) (fun h => ?_)) <;> first | contradiction | (subst h; conv => whnf) | (conv => whnf))
    | ((with_reducible refine sp_d' (fun h => ?_) (fun h => ?_)) <;> first | contradiction | (subst h; conv => whnf) | (conv => whnf))
    | ((with_reducible refine sp_eF ?_ ?_); decide; conv => whnf)
    | ((with_reducible refine sp_eT ?_); conv => whnf)
    | ((with_reducible refine sp_e (fun h => ?_) (fun h => ?_)) <;> first | contradiction | (subst h; conv => whnf) | (conv => whnf))
    | ((with_reducible refine sp_e' (fun h => ?_) (fun h => ?_)) <;> first | contradiction | (subst h; conv => whnf) | (conv => whnf))
    | ((with_reducible refine sp_n (fun h => ?_) (fun h => ?_)) <;> first | contradiction | (subst h; conv => whnf) | (conv => whnf))
    | ((with_reducible refine sp_n' (fun h => ?_) (fun h => ?_)) <;> first | contradiction | (subst h; conv => whnf) | (conv => whnf))
    | ((with_reducible refine sp_nb (fun h => ?_) (fun h => ?_)) <;> first | contradiction | (conv => whnf))
    | ((with_reducible refine sp_nb' (fun h => ?_) (fun h => ?_)) <;> first | contradiction | (conv => whnf))
    | ((with_reducible refine sp_b (fun h => ?_) (fun h => ?_)) <;> first | contradiction | (conv => whnf))
    | ((with_reducible refine sp_b' (fun h => ?_) (fun h => ?_)) <;> first | contradiction | (conv => whnf))
    | (refine ⟨(rfl : nodupB _ = true), rfl, ?_⟩; conv => whnf)
    | (with_reducible refine bnd2 ?_ ?_)
    | (with_reducible refine bnd2' ?_ ?_)
    | (with_reducible refine bndN ?_ ?_)
    | ((with_reducible refine and_of ?_ ?_); conv => whnf)
    | (refine Exists.intro ({k : Nat // k ≤ c.length}) (Exists.intro (fun ⟨k, hk⟩ => mkS Try.f21.ntmps [(3, .row 23), (10, .dat (.seq .inss c)), (11, .dat (.i c.length)), (12, .dat (.i k))] [(23, .row 3 .ints (brP c k) false)]) (Exists.intro (fun ⟨k, hk⟩ => c.length - k) (Exists.intro ⟨0, Nat.zero_le _⟩ (And.intro (SubP.sub (σ := [(23, none)]) ⟨⟨rfl, rfl, rfl⟩, ⟨rfl, (wk_dat ?_), (wk_dat ?_), (wk_dat ?_), trivial⟩, ⟨?_, trivial⟩⟩) (fun ⟨k, hk⟩ => ?_))))); rotate_right; conv => whnf)
    | (refine Exists.intro ⟨k + 1, ?_⟩ (And.intro ?_ (SubP.sub (σ := [(23, some 23)]) ⟨⟨rfl, rfl, rfl⟩, ⟨rfl, (wk_dat ?_), (wk_dat ?_), (wk_dat ?_), trivial⟩, ⟨⟨⟨rfl, rfl⟩, ?_⟩, trivial⟩⟩)))
    | (refine Or.inl ⟨_, i_ProgramOk .., rfl, ?_⟩; rotate_right; conv => whnf)
    | (refine Exists.intro _ (And.intro (i_ProgramOk ..) (And.intro rfl ?_)); rotate_right; conv => whnf)
    | (intro h; conv => whnf))
  all_goals (repeat (clear hK; clear K1))
  all_goals first
    | rfl
    | assumption
    | exact Bool.noConfusion (h.symm.trans hp)
    | omega
    | (dsimp only; omega)
    | exact congrArg (Dat.int .i64) (wrap_succ (by assumption) (by assumption)).symm
    | exact sig_fin (brP_yes h)
    | exact sig_fin (brP_no h)
    | exact row_fin (brP_end h hk)
    | (have hb := brP_len c k; simp; omega)
    | (have hb := brP_len c k; show ((brP c k).length + [_].length) * 8 ≤ _; simp; omega)
    | (have hb := brP_len c k; have hm : maxLen = 9223372036854775807 := rfl; simp; omega)
theorem s_BranchesOf0 (w mem inn : Int) (c : List V.Ins) (hp : progP ⟨w, mem, inn, c⟩ = false) : CallsV Try.prog 20 [.agg [.dat (.i w), .dat (.i mem), .dat (.i inn), .dat (.seq .inss c)]] (.nils) := by
  refine CallsV.of_awp tauOk mixOk Try.func20 rfl rfl rfl ?_
  conv => whnf
  repeat' (first
    | ((with_reducible refine fun (K1 : AX → AState → Prop) hK => ?_); conv => whnf)
    | ((with_reducible show K1 _ _); subst hK; conv => whnf)
    | (with_reducible exact rfl)
    | ((with_reducible refine sp_T ?_); conv => whnf)
    | ((with_reducible refine sp_F ?_); conv => whnf)
    | ((with_reducible refine sp_T' ?_); conv => whnf)
    | ((with_reducible refine sp_F' ?_); conv => whnf)
    | ((with_reducible refine sp_dF ?_ ?_); decide; conv => whnf)
    | ((with_reducible refine sp_dT ?_ ?_); decide; conv => whnf)
    | ((with_reducible refine sp_d (fun h => ?_) (fun h => ?_)) <;> first | contradiction | (subst h; conv => whnf) | (conv => whnf))
    | ((with_reducible refine sp_d' (fun h => ?_) (fun h => ?_)) <;> first | contradiction | (subst h; conv => whnf) | (conv => whnf))
    | ((with_reducible refine sp_eF ?_ ?_); decide; conv => whnf)
    | ((with_reducible refine sp_eT ?_); conv => whnf)
    | ((with_reducible refine sp_e (fun h => ?_) (fun h => ?_)) <;> first | contradiction | (subst h; conv => whnf) | (conv => whnf))
    | ((with_reducible refine sp_e' (fun h => ?_) (fun h => ?_)) <;> first | contradiction | (subst h; conv => whnf) | (conv => whnf))
    | ((with_reducible refine sp_n (fun h => ?_) (fun h => ?_)) <;> first | contradiction | (subst h; conv => whnf) | (conv => whnf))
    | ((with_reducible refine sp_n' (fun h => ?_) (fun h => ?_)) <;> first | contradiction | (subst h; conv => whnf) | (conv => whnf))
    | ((with_reducible refine sp_nb (fun h => ?_) (fun h => ?_)) <;> first | contradiction | (conv => whnf))
    | ((with_reducible refine sp_nb' (fun h => ?_) (fun h => ?_)) <;> first | contradiction | (conv => whnf))
    | ((with_reducible refine sp_b (fun h => ?_) (fun h => ?_)) <;> first | contradiction | (conv => whnf))
    | ((with_reducible refine sp_b' (fun h => ?_) (fun h => ?_)) <;> first | contradiction | (conv => whnf))
    | (refine ⟨(rfl : nodupB _ = true), rfl, ?_⟩; conv => whnf)
    | (with_reducible refine bnd2 ?_ ?_)
    | (with_reducible refine bnd2' ?_ ?_)
    | (with_reducible refine bndN ?_ ?_)
    | ((with_reducible refine and_of ?_ ?_); conv => whnf)
    | (refine Or.inl ⟨_, s_ProgramOk .., rfl, ?_⟩; rotate_right; conv => whnf)
    | (refine Exists.intro _ (And.intro (s_ProgramOk ..) (And.intro rfl ?_)); rotate_right; conv => whnf)
    | (intro h; conv => whnf))
  all_goals (repeat (clear hK; clear K1))
  all_goals first | rfl | trivial | exact absurd ((show progP _ = true by assumption).symm.trans hp) Bool.noConfusion
theorem i_BranchesOf0 (w mem inn : Int) (c : List V.Ins) (hp : progP ⟨w, mem, inn, c⟩ = false) : CallsV Try.prog 21 [.agg [.dat (.i w), .dat (.i mem), .dat (.i inn), .dat (.seq .inss c)]] (.nils) := by
  refine CallsV.of_awp tauOk mixOk Try.func21 rfl rfl rfl ?_
  conv => whnf
  repeat' (first
    | ((with_reducible refine fun (K1 : AX → AState → Prop) hK => ?_); conv => whnf)
    | ((with_reducible show K1 _ _); subst hK; conv => whnf)
    | (with_reducible exact rfl)
    | ((with_reducible refine sp_T ?_); conv => whnf)
    | ((with_reducible refine sp_F ?_); conv => whnf)
    | ((with_reducible refine sp_T' ?_); conv => whnf)
    | ((with_reducible refine sp_F' ?_); conv => whnf)
    | ((with_reducible refine sp_dF ?_ ?_); decide; conv => whnf)
    | ((with_reducible refine sp_dT ?_ ?_); decide; conv => whnf)
    | ((with_reducible refine sp_d (fun h => ?_) (fun h => ?_)) <;> first | contradiction | (subst h; conv => whnf) | (conv => whnf))
    | ((with_reducible refine sp_d' (fun h => ?_) (fun h => ?_)) <;> first | contradiction | (subst h; conv => whnf) | (conv => whnf))
    | ((with_reducible refine sp_eF ?_ ?_); decide; conv => whnf)
    | ((with_reducible refine sp_eT ?_); conv => whnf)
    | ((with_reducible refine sp_e (fun h => ?_) (fun h => ?_)) <;> first | contradiction | (subst h; conv => whnf) | (conv => whnf))
    | ((with_reducible refine sp_e' (fun h => ?_) (fun h => ?_)) <;> first | contradiction | (subst h; conv => whnf) | (conv => whnf))
    | ((with_reducible refine sp_n (fun h => ?_) (fun h => ?_)) <;> first | contradiction | (subst h; conv => whnf) | (conv => whnf))
    | ((with_reducible refine sp_n' (fun h => ?_) (fun h => ?_)) <;> first | contradiction | (subst h; conv => whnf) | (conv => whnf))
    | ((with_reducible refine sp_nb (fun h => ?_) (fun h => ?_)) <;> first | contradiction | (conv => whnf))
    | ((with_reducible refine sp_nb' (fun h => ?_) (fun h => ?_)) <;> first | contradiction | (conv => whnf))
    | ((with_reducible refine sp_b (fun h => ?_) (fun h => ?_)) <;> first | contradiction | (conv => whnf))
    | ((with_reducible refine sp_b' (fun h => ?_) (fun h => ?_)) <;> first | contradiction | (conv => whnf))
    | (refine ⟨(rfl : nodupB _ = true), rfl, ?_⟩; conv => whnf)
    | (with_reducible refine bnd2 ?_ ?_)
    | (with_reducible refine bnd2' ?_ ?_)
    | (with_reducible refine bndN ?_ ?_)
    | ((with_reducible refine and_of ?_ ?_); conv => whnf)
    | (refine Or.inl ⟨_, i_ProgramOk .., rfl, ?_⟩; rotate_right; conv => whnf)
    | (refine Exists.intro _ (And.intro (i_ProgramOk ..) (And.intro rfl ?_)); rotate_right; conv => whnf)
    | (intro h; conv => whnf))
  all_goals (repeat (clear hK; clear K1))
  all_goals first | rfl | trivial | exact absurd ((show progP _ = true by assumption).symm.trans hp) Bool.noConfusion
theorem l_heldIntS0 (k : Int) : CallsV Try.prog 25 [.dat (.seq .ints []), .dat (.i k)] (.dat (.i k)) := by
  refine CallsV.of_awp tauOk mixOk Try.func25 rfl rfl rfl ?_
  conv => whnf
  repeat' (first
    | ((with_reducible refine fun (K1 : AX → AState → Prop) hK => ?_); conv => whnf)
    | ((with_reducible show K1 _ _); subst hK; conv => whnf)
    | (with_reducible exact rfl)
    | ((with_reducible refine sp_T ?_); conv => whnf)
    | ((with_reducible refine sp_F ?_); conv => whnf)
    | ((with_reducible refine sp_T' ?_); conv => whnf)
    | ((with_reducible refine sp_F' ?_); conv => whnf)
    | ((with_reducible refine sp_dF ?_ ?_); decide; conv => whnf)
    | ((with_reducible refine sp_dT ?_ ?_); decide; conv => whnf)
    | ((with_reducible refine sp_d (fun h => ?_) (fun h => ?_)) <;> first | contradiction | (subst h; conv => whnf) | (conv => whnf))
    | ((with_reducible refine sp_d' (fun h => ?_) (fun h => ?_)) <;> first | contradiction | (subst h; conv => whnf) | (conv => whnf))
    | ((with_reducible refine sp_eF ?_ ?_); decide; conv => whnf)
    | ((with_reducible refine sp_eT ?_); conv => whnf)
    | ((with_reducible refine sp_e (fun h => ?_) (fun h => ?_)) <;> first | contradiction | (subst h; conv => whnf) | (conv => whnf))
    | ((with_reducible refine sp_e' (fun h => ?_) (fun h => ?_)) <;> first | contradiction | (subst h; conv => whnf) | (conv => whnf))
    | ((with_reducible refine sp_n (fun h => ?_) (fun h => ?_)) <;> first | contradiction | (subst h; conv => whnf) | (conv => whnf))
    | ((with_reducible refine sp_n' (fun h => ?_) (fun h => ?_)) <;> first | contradiction | (subst h; conv => whnf) | (conv => whnf))
    | ((with_reducible refine sp_nb (fun h => ?_) (fun h => ?_)) <;> first | contradiction | (conv => whnf))
    | ((with_reducible refine sp_nb' (fun h => ?_) (fun h => ?_)) <;> first | contradiction | (conv => whnf))
    | ((with_reducible refine sp_b (fun h => ?_) (fun h => ?_)) <;> first | contradiction | (conv => whnf))
    | ((with_reducible refine sp_b' (fun h => ?_) (fun h => ?_)) <;> first | contradiction | (conv => whnf))
    | (refine ⟨(rfl : nodupB _ = true), rfl, ?_⟩; conv => whnf)
    | (with_reducible refine bnd2 ?_ ?_)
    | (with_reducible refine bnd2' ?_ ?_)
    | (with_reducible refine bndN ?_ ?_)
    | ((with_reducible refine and_of ?_ ?_); conv => whnf)
    | (refine Exists.intro (Unit) (Exists.intro (fun _ => mkS Try.f25.ntmps [(0, .dat (.seq .ints [])), (1, .dat (.i k)), (5, .dat (.i 0))] []) (Exists.intro (fun _ => 0) (Exists.intro () (And.intro (SubP.sub (σ := []) ⟨⟨rfl, rfl, rfl⟩, ⟨(wk_dat ?_), (wk_dat ?_), (wk_dat ?_), trivial⟩, trivial⟩) (fun _ => ?_))))); rotate_right; conv => whnf)
    | (refine Exists.intro () (And.intro ?_ (SubP.sub (σ := []) ⟨⟨rfl, rfl, rfl⟩, ⟨(wk_dat ?_), (wk_dat ?_), (wk_dat ?_), trivial⟩, trivial⟩)))
    | (intro h; conv => whnf))
  all_goals (repeat (clear hK; clear K1))
  all_goals first
    | rfl
    | assumption
    | exact Bool.noConfusion (h.symm.trans hp)
    | omega
    | (dsimp only; omega)
    | exact congrArg (Dat.int .i64) (wrap_succ (by assumption) (by assumption)).symm
theorem lf_toProgram (w mem inn : Int) (a : List V.Ins) (hl : a.length ≤ 1048576) : CallsF Try.prog 16 [.agg [.dat (.i w), .dat (.i mem), .dat (.i inn), .dat (.seq .inss a)]] true (fun res B => res = .agg [.dat (.i w), .dat (.i mem), .dat (.i inn), .row 0] ∧ B = [.row 64 .inss a false]) := by
  refine CallsF.of_awp tauOk mixOk Try.func16 rfl rfl rfl ?_
  conv => whnf
  repeat' (first
    | ((with_reducible refine fun (K1 : AX → AState → Prop) hK => ?_); conv => whnf)
    | ((with_reducible show K1 _ _); subst hK; conv => whnf)
    | (with_reducible exact rfl)
    | ((with_reducible refine sp_T ?_); conv => whnf)
    | ((with_reducible refine sp_F ?_); conv => whnf)
    | ((with_reducible refine sp_T' ?_); conv => whnf)
    | ((with_reducible refine sp_F' ?_); conv => whnf)
    | ((with_reducible refine sp_dF ?_ ?_); decide; conv => whnf)
    | ((with_reducible refine sp_dT ?_ ?_); decide; conv => whnf)
    | ((with_reducible refine sp_d (fun h => ?_) (fun h => ?_)) <;> first | contradiction | (subst h; conv => whnf) | (conv => whnf))
    | ((with_reducible refine sp_d' (fun h => ?_) (fun h => ?_)) <;> first | contradiction | (subst h; conv => whnf) | (conv => whnf))
    | ((with_reducible refine sp_eF ?_ ?_); decide; conv => whnf)
    | ((with_reducible refine sp_eT ?_); conv => whnf)
    | ((with_reducible refine sp_e (fun h => ?_) (fun h => ?_)) <;> first | contradiction | (subst h; conv => whnf) | (conv => whnf))
    | ((with_reducible refine sp_e' (fun h => ?_) (fun h => ?_)) <;> first | contradiction | (subst h; conv => whnf) | (conv => whnf))
    | ((with_reducible refine sp_n (fun h => ?_) (fun h => ?_)) <;> first | contradiction | (subst h; conv => whnf) | (conv => whnf))
    | ((with_reducible refine sp_n' (fun h => ?_) (fun h => ?_)) <;> first | contradiction | (subst h; conv => whnf) | (conv => whnf))
    | ((with_reducible refine sp_nb (fun h => ?_) (fun h => ?_)) <;> first | contradiction | (conv => whnf))
    | ((with_reducible refine sp_nb' (fun h => ?_) (fun h => ?_)) <;> first | contradiction | (conv => whnf))
    | ((with_reducible refine sp_b (fun h => ?_) (fun h => ?_)) <;> first | contradiction | (conv => whnf))
    | ((with_reducible refine sp_b' (fun h => ?_) (fun h => ?_)) <;> first | contradiction | (conv => whnf))
    | (refine ⟨(rfl : nodupB _ = true), rfl, ?_⟩; conv => whnf)
    | (with_reducible refine bnd2 ?_ ?_)
    | (with_reducible refine bnd2' ?_ ?_)
    | (with_reducible refine bndN ?_ ?_)
    | ((with_reducible refine and_of ?_ ?_); conv => whnf)
    | (refine Or.inr (Or.inl ⟨_, _, lf_toInsS (hl := ?_) .., rfl, fun res B hRB => ?_⟩); rotate_right; obtain ⟨rfl, rfl⟩ := hRB; conv => whnf)
    | (refine Exists.intro _ (And.intro (l_toInsS (hl := ?_) ..) (And.intro rfl ?_)); rotate_right; conv => whnf)
    | (intro h; conv => whnf))
  all_goals (repeat (clear hK; clear K1))
  all_goals first
      | rfl
      | assumption
      | exact Bool.noConfusion (h.symm.trans hp)
      | (simp_all []; done)
      | grind []
      | (simp_all []; omega)
theorem len_of {n : Nat} (h : ¬ (if (1048576 : Int) - (n : Nat) < 0 then (-1 : Int) else 1048576 - (n : Nat)) < 0) : n ≤ 1048576 := by split at h <;> omega
set_option maxHeartbeats 2000000 in
theorem law_BranchesOf1 (w mem inn : Int) (c : List V.Ins) (hp : progP ⟨w, mem, inn, c⟩ = true) : CallsV Try.prog 5 [.agg [.dat (.i w), .dat (.i mem), .dat (.i inn), .dat (.seq .inss c)]] (.dat (.bool true)) := by
  refine CallsV.of_awp tauOk mixOk Try.func5 rfl rfl rfl ?_
  conv => whnf
  repeat' (first
    | ((with_reducible refine fun (K1 : AX → AState → Prop) hK => ?_); conv => whnf)
    | ((with_reducible show K1 _ _); subst hK; conv => whnf)
    | (with_reducible exact rfl)
    | ((with_reducible refine sp_T ?_); conv => whnf)
    | ((with_reducible refine sp_F ?_); conv => whnf)
    | ((with_reducible refine sp_T' ?_); conv => whnf)
    | ((with_reducible refine sp_F' ?_); conv => whnf)
    | ((with_reducible refine sp_dF ?_ ?_); decide; conv => whnf)
    | ((with_reducible refine sp_dT ?_ ?_); decide; conv => whnf)
    | ((with_reducible refine sp_d (fun h => ?_) (fun h => ?_)) <;> first | contradiction | (subst h; conv => whnf) | (conv => whnf))
    | ((with_reducible refine sp_d' (fun h => ?_) (fun h => ?_)) <;> first | contradiction | (subst h; conv => whnf) | (conv => whnf))
    | ((with_reducible refine sp_eF ?_ ?_); decide; conv => whnf)
    | ((with_reducible refine sp_eT ?_); conv => whnf)
    | ((with_reducible refine sp_e (fun h => ?_) (fun h => ?_)) <;> first | contradiction | (subst h; conv => whnf) | (conv => whnf))
    | ((with_reducible refine sp_e' (fun h => ?_) (fun h => ?_)) <;> first | contradiction | (subst h; conv => whnf) | (conv => whnf))
    | ((with_reducible refine sp_n (fun h => ?_) (fun h => ?_)) <;> first | contradiction | (subst h; conv => whnf) | (conv => whnf))
    | ((with_reducible refine sp_n' (fun h => ?_) (fun h => ?_)) <;> first | contradiction | (subst h; conv => whnf) | (conv => whnf))
    | ((with_reducible refine sp_nb (fun h => ?_) (fun h => ?_)) <;> first | contradiction | (conv => whnf))
    | ((with_reducible refine sp_nb' (fun h => ?_) (fun h => ?_)) <;> first | contradiction | (conv => whnf))
    | ((with_reducible refine sp_b (fun h => ?_) (fun h => ?_)) <;> first | contradiction | (conv => whnf))
    | ((with_reducible refine sp_b' (fun h => ?_) (fun h => ?_)) <;> first | contradiction | (conv => whnf))
    | (refine ⟨(rfl : nodupB _ = true), rfl, ?_⟩; conv => whnf)
    | (with_reducible refine bnd2 ?_ ?_)
    | (with_reducible refine bnd2' ?_ ?_)
    | (with_reducible refine bndN ?_ ?_)
    | ((with_reducible refine and_of ?_ ?_); conv => whnf)
    | (refine Or.inl ⟨_, l_szProgram (h0 := ?_) (h1 := ?_) .., rfl, ?_⟩; rotate_right; conv => whnf)
    | (refine Exists.intro _ (And.intro (l_szProgram (h0 := ?_) (h1 := ?_) ..) (And.intro rfl ?_)); rotate_right; conv => whnf)
    | (refine Or.inr (Or.inl ⟨_, _, s_BranchesOf (hp := by assumption) (hl := ?_) .., rfl, fun res B hRB => ?_⟩); rotate_right; obtain ⟨rfl, rfl⟩ := hRB; conv => whnf)
    | (refine Or.inl ⟨_, s_BranchesOf0 (hp := by assumption) .., rfl, ?_⟩; rotate_right; conv => whnf)
    | (refine Exists.intro _ (And.intro (s_BranchesOf0 (hp := by assumption) ..) (And.intro rfl ?_)); rotate_right; conv => whnf)
    | (refine Exists.intro _ (And.intro (l_toProgram (hl := ?_) ..) (And.intro rfl ?_)); rotate_right; conv => whnf)
    | (refine Or.inr (Or.inl ⟨_, _, lf_toProgram (hl := ?_) .., rfl, fun res B hRB => ?_⟩); rotate_right; obtain ⟨rfl, rfl⟩ := hRB; conv => whnf)
    | (refine Or.inr (Or.inl ⟨_, _, i_BranchesOf (hp := by assumption) (hl := ?_) .., rfl, fun res B hRB => ?_⟩); rotate_right; obtain ⟨rfl, rfl⟩ := hRB; conv => whnf)
    | (refine Or.inl ⟨_, i_BranchesOf0 (hp := by assumption) .., rfl, ?_⟩; rotate_right; conv => whnf)
    | (refine Exists.intro _ (And.intro (i_BranchesOf0 (hp := by assumption) ..) (And.intro rfl ?_)); rotate_right; conv => whnf)
    | (refine Or.inl ⟨_, l_eqIntS .., rfl, ?_⟩; rotate_right; conv => whnf)
    | (refine Exists.intro _ (And.intro (l_eqIntS ..) (And.intro rfl ?_)); rotate_right; conv => whnf)
    | (refine Or.inl ⟨_, l_eqProgram .., rfl, ?_⟩; rotate_right; conv => whnf)
    | (refine Exists.intro _ (And.intro (l_eqProgram ..) (And.intro rfl ?_)); rotate_right; conv => whnf)
    | (refine Or.inr (Or.inr ⟨_, _, g_markProgram (h0 := ?_) (h1 := ?_) (hl := ?_) .., fun res B hRB => ?_⟩); rotate_right; obtain ⟨rfl, rfl⟩ := hRB; conv => whnf)
    | (refine Or.inr (Or.inr ⟨_, _, g_markIntS (h0 := ?_) (h1 := ?_) (hl := ?_) .., fun res B hRB => ?_⟩); rotate_right; obtain ⟨rfl, rfl⟩ := hRB; conv => whnf)
    | (refine Or.inl ⟨_, g_markIntS0 .., rfl, ?_⟩; rotate_right; conv => whnf)
    | (refine Exists.intro _ (And.intro (g_markIntS0 ..) (And.intro rfl ?_)); rotate_right; conv => whnf)
    | (refine Or.inl ⟨_, l_heldIntS (h0 := ?_) (h1 := ?_) (hl := ?_) .., rfl, ?_⟩; rotate_right; conv => whnf)
    | (refine Exists.intro _ (And.intro (l_heldIntS (h0 := ?_) (h1 := ?_) (hl := ?_) ..) (And.intro rfl ?_)); rotate_right; conv => whnf)
    | (refine Or.inl ⟨_, l_heldIntS0 .., rfl, ?_⟩; rotate_right; conv => whnf)
    | (refine Exists.intro _ (And.intro (l_heldIntS0 ..) (And.intro rfl ?_)); rotate_right; conv => whnf)
    | (intro h; conv => whnf))
  all_goals (repeat (clear hK; clear K1))
  all_goals first | rfl | (have hc := len_of (n := c.length) (by assumption); have hb := brP_len c c.length; omega) | omega | (split at h <;> omega) | (exact absurd h (by simp)) | (simp at h; done) | (simp at *; omega) | (simp_all; done)
set_option maxHeartbeats 2000000 in
theorem law_BranchesOf0 (w mem inn : Int) (c : List V.Ins) (hp : progP ⟨w, mem, inn, c⟩ = false) : CallsV Try.prog 5 [.agg [.dat (.i w), .dat (.i mem), .dat (.i inn), .dat (.seq .inss c)]] (.dat (.bool true)) := by
  refine CallsV.of_awp tauOk mixOk Try.func5 rfl rfl rfl ?_
  conv => whnf
  repeat' (first
    | ((with_reducible refine fun (K1 : AX → AState → Prop) hK => ?_); conv => whnf)
    | ((with_reducible show K1 _ _); subst hK; conv => whnf)
    | (with_reducible exact rfl)
    | ((with_reducible refine sp_T ?_); conv => whnf)
    | ((with_reducible refine sp_F ?_); conv => whnf)
    | ((with_reducible refine sp_T' ?_); conv => whnf)
    | ((with_reducible refine sp_F' ?_); conv => whnf)
    | ((with_reducible refine sp_dF ?_ ?_); decide; conv => whnf)
    | ((with_reducible refine sp_dT ?_ ?_); decide; conv => whnf)
    | ((with_reducible refine sp_d (fun h => ?_) (fun h => ?_)) <;> first | contradiction | (subst h; conv => whnf) | (conv => whnf))
    | ((with_reducible refine sp_d' (fun h => ?_) (fun h => ?_)) <;> first | contradiction | (subst h; conv => whnf) | (conv => whnf))
    | ((with_reducible refine sp_eF ?_ ?_); decide; conv => whnf)
    | ((with_reducible refine sp_eT ?_); conv => whnf)
    | ((with_reducible refine sp_e (fun h => ?_) (fun h => ?_)) <;> first | contradiction | (subst h; conv => whnf) | (conv => whnf))
    | ((with_reducible refine sp_e' (fun h => ?_) (fun h => ?_)) <;> first | contradiction | (subst h; conv => whnf) | (conv => whnf))
    | ((with_reducible refine sp_n (fun h => ?_) (fun h => ?_)) <;> first | contradiction | (subst h; conv => whnf) | (conv => whnf))
    | ((with_reducible refine sp_n' (fun h => ?_) (fun h => ?_)) <;> first | contradiction | (subst h; conv => whnf) | (conv => whnf))
    | ((with_reducible refine sp_nb (fun h => ?_) (fun h => ?_)) <;> first | contradiction | (conv => whnf))
    | ((with_reducible refine sp_nb' (fun h => ?_) (fun h => ?_)) <;> first | contradiction | (conv => whnf))
    | ((with_reducible refine sp_b (fun h => ?_) (fun h => ?_)) <;> first | contradiction | (conv => whnf))
    | ((with_reducible refine sp_b' (fun h => ?_) (fun h => ?_)) <;> first | contradiction | (conv => whnf))
    | (refine ⟨(rfl : nodupB _ = true), rfl, ?_⟩; conv => whnf)
    | (with_reducible refine bnd2 ?_ ?_)
    | (with_reducible refine bnd2' ?_ ?_)
    | (with_reducible refine bndN ?_ ?_)
    | ((with_reducible refine and_of ?_ ?_); conv => whnf)
    | (refine Or.inl ⟨_, l_szProgram (h0 := ?_) (h1 := ?_) .., rfl, ?_⟩; rotate_right; conv => whnf)
    | (refine Exists.intro _ (And.intro (l_szProgram (h0 := ?_) (h1 := ?_) ..) (And.intro rfl ?_)); rotate_right; conv => whnf)
    | (refine Or.inr (Or.inl ⟨_, _, s_BranchesOf (hp := by assumption) (hl := ?_) .., rfl, fun res B hRB => ?_⟩); rotate_right; obtain ⟨rfl, rfl⟩ := hRB; conv => whnf)
    | (refine Or.inl ⟨_, s_BranchesOf0 (hp := by assumption) .., rfl, ?_⟩; rotate_right; conv => whnf)
    | (refine Exists.intro _ (And.intro (s_BranchesOf0 (hp := by assumption) ..) (And.intro rfl ?_)); rotate_right; conv => whnf)
    | (refine Exists.intro _ (And.intro (l_toProgram (hl := ?_) ..) (And.intro rfl ?_)); rotate_right; conv => whnf)
    | (refine Or.inr (Or.inl ⟨_, _, lf_toProgram (hl := ?_) .., rfl, fun res B hRB => ?_⟩); rotate_right; obtain ⟨rfl, rfl⟩ := hRB; conv => whnf)
    | (refine Or.inr (Or.inl ⟨_, _, i_BranchesOf (hp := by assumption) (hl := ?_) .., rfl, fun res B hRB => ?_⟩); rotate_right; obtain ⟨rfl, rfl⟩ := hRB; conv => whnf)
    | (refine Or.inl ⟨_, i_BranchesOf0 (hp := by assumption) .., rfl, ?_⟩; rotate_right; conv => whnf)
    | (refine Exists.intro _ (And.intro (i_BranchesOf0 (hp := by assumption) ..) (And.intro rfl ?_)); rotate_right; conv => whnf)
    | (refine Or.inl ⟨_, l_eqIntS .., rfl, ?_⟩; rotate_right; conv => whnf)
    | (refine Exists.intro _ (And.intro (l_eqIntS ..) (And.intro rfl ?_)); rotate_right; conv => whnf)
    | (refine Or.inl ⟨_, l_eqProgram .., rfl, ?_⟩; rotate_right; conv => whnf)
    | (refine Exists.intro _ (And.intro (l_eqProgram ..) (And.intro rfl ?_)); rotate_right; conv => whnf)
    | (refine Or.inr (Or.inr ⟨_, _, g_markProgram (h0 := ?_) (h1 := ?_) (hl := ?_) .., fun res B hRB => ?_⟩); rotate_right; obtain ⟨rfl, rfl⟩ := hRB; conv => whnf)
    | (refine Or.inr (Or.inr ⟨_, _, g_markIntS (h0 := ?_) (h1 := ?_) (hl := ?_) .., fun res B hRB => ?_⟩); rotate_right; obtain ⟨rfl, rfl⟩ := hRB; conv => whnf)
    | (refine Or.inl ⟨_, g_markIntS0 .., rfl, ?_⟩; rotate_right; conv => whnf)
    | (refine Exists.intro _ (And.intro (g_markIntS0 ..) (And.intro rfl ?_)); rotate_right; conv => whnf)
    | (refine Or.inl ⟨_, l_heldIntS (h0 := ?_) (h1 := ?_) (hl := ?_) .., rfl, ?_⟩; rotate_right; conv => whnf)
    | (refine Exists.intro _ (And.intro (l_heldIntS (h0 := ?_) (h1 := ?_) (hl := ?_) ..) (And.intro rfl ?_)); rotate_right; conv => whnf)
    | (refine Or.inl ⟨_, l_heldIntS0 .., rfl, ?_⟩; rotate_right; conv => whnf)
    | (refine Exists.intro _ (And.intro (l_heldIntS0 ..) (And.intro rfl ?_)); rotate_right; conv => whnf)
    | (intro h; conv => whnf))
  all_goals (repeat (clear hK; clear K1))
  all_goals first | rfl | (have hc := len_of (n := c.length) (by assumption); have hb := brP_len c c.length; omega) | omega | (split at h <;> omega) | (exact absurd h (by simp)) | (simp at h; done) | (simp at *; omega) | (simp_all; done)
theorem law_BranchesOf (w mem inn : Int) (c : List V.Ins) : CallsV Try.prog 5 [.agg [.dat (.i w), .dat (.i mem), .dat (.i inn), .dat (.seq .inss c)]] (.dat (.bool true)) := by
  cases hp : progP ⟨w, mem, inn, c⟩ with
  | true => exact law_BranchesOf1 w mem inn c hp
  | false => exact law_BranchesOf0 w mem inn c hp
end Vg
