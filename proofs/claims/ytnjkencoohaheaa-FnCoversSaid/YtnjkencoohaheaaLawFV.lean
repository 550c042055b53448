/- Lists of numbers are compared, and looked through: contracts. No condition. -/
import Derived.Test.YtnjkencoohaheaaRuns
import Derived.Test.YtnjkencoohaheaaMark
import Derived.Test.YtnjkencoohaheaaSess
import Derived.Test.YtnjkencoohaheaaSuiP
import Derived.Test.YtnjkencoohaheaaGive
import Derived.Test.YtnjkencoohaheaaSui
import Derived.Test.YtnjkencoohaheaaSuiP
namespace Vg
open Go Go.Proofs
theorem getD_atI {l : List Int} {k : Nat} (h : k < l.length) : l.getD k K.ints.dflt = l[k] := by
  rw [List.getD_eq_getElem?_getD, List.getElem?_eq_getElem h, Option.getD_some]
theorem take_eq_at {a b : List Int} {k : Nat} (hk : a.take k = b.take k) (ha : (k : Int) < a.length) (hb : (k : Int) < b.length) (he : b.getD (k : Int).toNat K.ints.dflt = a.getD (k : Int).toNat K.ints.dflt) : a.take (k + 1) = b.take (k + 1) := by
  have h1 : k < a.length := by omega
  have h2 : k < b.length := by omega
  rw [Int.toNat_natCast, getD_atI h1, getD_atI h2] at he
  rw [List.take_succ_eq_append_getElem h1, List.take_succ_eq_append_getElem h2, hk, he]
theorem ints_end {a b : List Int} {k : Nat} (hb : k ≤ b.length) (hk : a.take k = b.take k) (ha : ¬ (k : Int) < a.length) : Dat.bool ((a.length : Int) == b.length) = Dat.bool (decide (a = b)) := by
  refine congrArg Dat.bool ?_
  rw [Bool.eq_iff_iff, beq_iff_eq, decide_eq_true_iff]
  constructor
  · intro h
    rw [List.take_of_length_le (by omega), List.take_of_length_le (by omega)] at hk
    exact hk
  · intro h; rw [h]
structure IntsI (a b : List Int) (k : Nat) : Prop where
  le : k ≤ b.length
  eq : a.take k = b.take k
theorem ints_s {a b : List Int} {k : Nat} (hk : IntsI a b k) (ha : (k : Int) < a.length) (hb : ¬ (k : Int) ≥ b.length) (he : b.getD (k : Int).toNat K.ints.dflt = a.getD (k : Int).toNat K.ints.dflt) : IntsI a b (k + 1) :=
  ⟨by omega, take_eq_at hk.eq ha (by omega) he⟩
theorem ints_s' {a b : List Int} {k : Nat} (hk : IntsI a b k) (ha : (k : Int) < a.length) (hb : (k : Int) < b.length) (he : b.getD (k : Int).toNat K.ints.dflt = a.getD (k : Int).toNat K.ints.dflt) : IntsI a b (k + 1) :=
  ⟨by omega, take_eq_at hk.eq ha hb he⟩
set_option maxHeartbeats 2000000 in
set_option maxRecDepth 100000 in
theorem l_ints (a b : List Int) : CallsV Try.prog 50 [.dat (.seq .ints a), .dat (.seq .ints b)] (.dat (.bool (decide (a = b)))) := by
  refine CallsV.of_awp tauOk mixOk Try.func50 rfl rfl rfl ?_
  conv => whnf
  repeat' (first
    | ((with_reducible refine Alt.l ?_); conv => whnf)
    | ((with_reducible refine fun (K1 : AX → AState → Prop) hK => ?_); conv => whnf)
    | ((with_reducible show K1 _ _); subst hK; conv => whnf)
    | (with_reducible exact rfl)
    | ((with_reducible refine sp_T ?_); conv => whnf)
    | ((with_reducible refine sp_F ?_); conv => whnf)
    | ((with_reducible refine sp_T' ?_); conv => whnf)
    | ((with_reducible refine sp_F' ?_); conv => whnf)
    | ((with_reducible refine sp_dF ?_ ?_); decide; conv => whnf)
    | ((with_reducible refine sp_dT ?_ ?_); decide; conv => whnf)
    | ((with_reducible refine sp_d (fun h => ?_) (fun h => ?_)) <;> first | contradiction | (subst h; conv => whnf) | (conv => whnf))
    | ((with_reducible refine sp_d' (fun h => ?_) (fun h => ?_)) <;> first | contradiction | (subst h; conv => whnf) | (conv => whnf))
    | ((with_reducible refine sp_eF ?_ ?_); decide; conv => whnf)
    | ((with_reducible refine sp_eT ?_); conv => whnf)
    | ((with_reducible refine sp_e (fun h => ?_) (fun h => ?_)) <;> first | contradiction | (subst h; conv => whnf) | (conv => whnf))
    | ((with_reducible refine sp_e' (fun h => ?_) (fun h => ?_)) <;> first | contradiction | (subst h; conv => whnf) | (conv => whnf))
    | ((with_reducible refine sp_n (fun h => ?_) (fun h => ?_)) <;> first | contradiction | (subst h; conv => whnf) | (conv => whnf))
    | ((with_reducible refine sp_n' (fun h => ?_) (fun h => ?_)) <;> first | contradiction | (subst h; conv => whnf) | (conv => whnf))
    | ((with_reducible refine sp_nb (fun h => ?_) (fun h => ?_)) <;> first | (exact Bool.noConfusion (Eq.trans (Eq.symm h) (show _ = true by with_reducible assumption))) | (exact Bool.noConfusion (Eq.trans (Eq.symm (show _ = false by with_reducible assumption)) h)) | (conv => whnf))
    | ((with_reducible refine sp_nb' (fun h => ?_) (fun h => ?_)) <;> first | (exact Bool.noConfusion (Eq.trans (Eq.symm h) (show _ = true by with_reducible assumption))) | (exact Bool.noConfusion (Eq.trans (Eq.symm (show _ = false by with_reducible assumption)) h)) | (conv => whnf))
    | ((with_reducible refine sp_b (fun h => ?_) (fun h => ?_)) <;> first | (exact Bool.noConfusion (Eq.trans (Eq.symm h) (show _ = true by with_reducible assumption))) | (exact Bool.noConfusion (Eq.trans (Eq.symm (show _ = false by with_reducible assumption)) h)) | (conv => whnf))
    | ((with_reducible refine sp_b' (fun h => ?_) (fun h => ?_)) <;> first | (exact Bool.noConfusion (Eq.trans (Eq.symm h) (show _ = true by with_reducible assumption))) | (exact Bool.noConfusion (Eq.trans (Eq.symm (show _ = false by with_reducible assumption)) h)) | (conv => whnf))
    | (refine ⟨(rfl : nodupB _ = true), rfl, ?_⟩; conv => whnf)
    | (with_reducible refine bnd2 ?_ ?_)
    | (with_reducible refine bnd2' ?_ ?_)
    | (with_reducible refine bndN ?_ ?_)
    | ((with_reducible refine and_of ?_ ?_); conv => whnf)
    | (refine Exists.intro ({k : Nat // IntsI a b k}) (Exists.intro (fun ⟨k, hk⟩ => mkS Try.f50.ntmps [(0, .dat (.seq .ints a)), (1, .dat (.seq .ints b)), (7, .dat (.seq .ints a)), (8, .dat (.i a.length)), (9, .dat (.i k))] []) (Exists.intro (fun ⟨k, hk⟩ => a.length - k) (Exists.intro ⟨0, ⟨Nat.zero_le _, rfl⟩⟩ (And.intro (SubP.sub (σ := []) ⟨⟨rfl, rfl, rfl⟩, ⟨(wk_dat ?_), (wk_dat ?_), (wk_dat ?_), (wk_dat ?_), (wk_dat ?_), trivial⟩, trivial⟩) (fun ⟨k, hk⟩ => ?_))))); rotate_right; conv => whnf)
    | (refine Exists.intro (⟨k + 1, ?_⟩ : {k : Nat // IntsI a b k}) (And.intro ?_ (SubP.sub (σ := []) ⟨⟨rfl, rfl, rfl⟩, ⟨(wk_dat ?_), (wk_dat ?_), (wk_dat ?_), (wk_dat ?_), (wk_dat ?_), trivial⟩, trivial⟩)))
    | ((with_reducible show awpOps _ _ _ _ _ _); conv => whnf)
    | (intro h; conv => whnf))
  all_goals (repeat (clear hK; clear K1))
  all_goals first
    | (with_reducible assumption)
    | (with_reducible rfl)
    | exact congrArg Dat.bool (decide_eq_false (fun e => by subst e; omega))
    | exact (congrArg Dat.bool (decide_eq_false (fun e => by subst e; omega))).symm
    | exact congrArg Dat.bool (decide_eq_false (fun e => by subst e; exact (by assumption : ¬ _) rfl))
    | exact (congrArg Dat.bool (decide_eq_false (fun e => by subst e; exact (by assumption : ¬ _) rfl))).symm
    | exact ints_s hk (by with_reducible assumption) (by with_reducible assumption) (by with_reducible assumption)
    | exact ints_s' hk (by with_reducible assumption) (by with_reducible assumption) (by with_reducible assumption)
    | exact ints_end hk.le hk.eq (by with_reducible assumption)
    | exact (ints_end hk.le hk.eq (by with_reducible assumption)).symm
    | exact congrArg (Dat.int .i64) (wrap_succ (by with_reducible assumption) (by with_reducible assumption)).symm
    | exact (rfl : Dat.i ((0 : Nat) : Int) = Dat.int .i64 0)
    | omega
    | (dsimp only; omega)
    | skip
end Vg

namespace Vg
open Go Go.Proofs

def brP (c : List V.Ins) (k : Nat) : List Int := ((List.range k).filter fun i => (c.getD i K.inss.dflt).op == 10).map fun i => ((i : Nat) : Int)
theorem brP_yes {c : List V.Ins} {k : Nat} (h : (c.getD k K.inss.dflt).op = 10) : brP c (k + 1) = brP c k ++ [(k : Int)] := by
  have h' : ((c.getD k K.inss.dflt).op == 10) = true := by simp only [h]; rfl
  simp only [brP, List.range_succ, List.filter_append, List.map_append, List.filter_cons, h', if_true, List.filter_nil, List.map_cons, List.map_nil]
theorem brP_no {c : List V.Ins} {k : Nat} (h : ¬ (c.getD k K.inss.dflt).op = 10) : brP c (k + 1) = brP c k := by
  have h' : ((c.getD k K.inss.dflt).op == 10) = false := by simpa using h
  simp only [brP, List.range_succ, List.filter_append, List.filter_cons, h', List.filter_nil, List.append_nil, Bool.false_eq_true, if_false]
theorem brP_len (c : List V.Ins) (k : Nat) : (brP c k).length ≤ k := by
  have := List.length_filter_le (fun i => (c.getD i K.inss.dflt).op == 10) (List.range k)
  simp only [brP, List.length_map]
  simpa using this
theorem brP_end {c : List V.Ins} {k : Nat} (h : ¬ (k : Int) < c.length) (hk : k ≤ c.length) : brP c k = brP c c.length := by rw [show k = c.length from by omega]

set_option maxRecDepth 100000 in
theorem i_BranchesOf (w mem inn : Int) (c : List V.Ins) (hp : progP ⟨w, mem, inn, c⟩ = true) (hl : c.length ≤ 1048576) : CallsF Try.prog 51 [.agg [.dat (.i w), .dat (.i mem), .dat (.i inn), .dat (.seq .inss c)]] true (fun res B => res = .row 0 ∧ B = [.row 3 .ints (brP c c.length) false]) := by
  refine CallsF.of_awp tauOk mixOk Try.func51 rfl rfl rfl ?_
  conv => whnf
  repeat' (first
    | ((with_reducible refine Alt.l ?_); conv => whnf)
    | ((with_reducible refine fun (K1 : AX → AState → Prop) hK => ?_); conv => whnf)
    | ((with_reducible show K1 _ _); subst hK; conv => whnf)
    | (with_reducible exact rfl)
    | ((with_reducible refine sp_T ?_); conv => whnf)
    | ((with_reducible refine sp_F ?_); conv => whnf)
    | ((with_reducible refine sp_T' ?_); conv => whnf)
    | ((with_reducible refine sp_F' ?_); conv => whnf)
    | ((with_reducible refine sp_dF ?_ ?_); decide; conv => whnf)
    | ((with_reducible refine sp_dT ?_ ?_); decide; conv => whnf)
    | ((with_reducible refine sp_d (fun h => ?_) (fun h => ?_)) <;> first | contradiction | (subst h; conv => whnf) | (conv => whnf))
    | ((with_reducible refine sp_d' (fun h => ?_) (fun h => ?_)) <;> first | contradiction | (subst h; conv => whnf) | (conv => whnf))
    | ((with_reducible refine sp_eF ?_ ?_); decide; conv => whnf)
    | ((with_reducible refine sp_eT ?_); conv => whnf)
    | ((with_reducible refine sp_e (fun h => ?_) (fun h => ?_)) <;> first | contradiction | (subst h; conv => whnf) | (conv => whnf))
    | ((with_reducible refine sp_e' (fun h => ?_) (fun h => ?_)) <;> first | contradiction | (subst h; conv => whnf) | (conv => whnf))
    | ((with_reducible refine sp_n (fun h => ?_) (fun h => ?_)) <;> first | contradiction | (subst h; conv => whnf) | (conv => whnf))
    | ((with_reducible refine sp_n' (fun h => ?_) (fun h => ?_)) <;> first | contradiction | (subst h; conv => whnf) | (conv => whnf))
    | ((with_reducible refine sp_nb (fun h => ?_) (fun h => ?_)) <;> first | contradiction | (conv => whnf))
    | ((with_reducible refine sp_nb' (fun h => ?_) (fun h => ?_)) <;> first | contradiction | (conv => whnf))
    | ((with_reducible refine sp_b (fun h => ?_) (fun h => ?_)) <;> first | contradiction | (conv => whnf))
    | ((with_reducible refine sp_b' (fun h => ?_) (fun h => ?_)) <;> first | contradiction | (conv => whnf))
    | (refine ⟨(rfl : nodupB _ = true), rfl, ?_⟩; conv => whnf)
    | (with_reducible refine bnd2 ?_ ?_)
    | (with_reducible refine bnd2' ?_ ?_)
    | (with_reducible refine bndN ?_ ?_)
    | ((with_reducible refine and_of ?_ ?_); conv => whnf)
    | (refine Exists.intro ({k : Nat // k ≤ c.length}) (Exists.intro (fun ⟨k, hk⟩ => mkS Try.f51.ntmps [(3, .row 23), (10, .dat (.seq .inss c)), (11, .dat (.i c.length)), (12, .dat (.i k))] [(23, .row 3 .ints (brP c k) false)]) (Exists.intro (fun ⟨k, hk⟩ => c.length - k) (Exists.intro ⟨0, Nat.zero_le _⟩ (And.intro (SubP.sub (σ := [(23, none)]) ⟨⟨rfl, rfl, rfl⟩, ⟨rfl, (wk_dat ?_), (wk_dat ?_), (wk_dat ?_), trivial⟩, ⟨?_, trivial⟩⟩) (fun ⟨k, hk⟩ => ?_))))); rotate_right; conv => whnf)
    | (refine Exists.intro ⟨k + 1, ?_⟩ (And.intro ?_ (SubP.sub (σ := [(23, some 23)]) ⟨⟨rfl, rfl, rfl⟩, ⟨rfl, (wk_dat ?_), (wk_dat ?_), (wk_dat ?_), trivial⟩, ⟨⟨⟨rfl, rfl⟩, ?_⟩, trivial⟩⟩)))
    | ((with_reducible refine pcI (g := 57) ?_); refine ⟨_, i_ProgramOk .., rfl, ?_⟩; rotate_right; conv => whnf)
    | ((with_reducible show Exists _); refine Exists.intro _ (And.intro (i_ProgramOk ..) (And.intro rfl ?_)); rotate_right; conv => whnf)
    | ((with_reducible show awpOps _ _ _ _ _ _); conv => whnf)
    | (intro h; conv => whnf))
  all_goals (repeat (clear hK; clear K1))
  all_goals first
    | rfl
    | assumption
    | exact Bool.noConfusion (h.symm.trans hp)
    | omega
    | (dsimp only; omega)
    | exact congrArg (Dat.int .i64) (wrap_succ (by assumption) (by assumption)).symm
    | exact sig_fin (brP_yes h)
    | exact sig_fin (brP_no h)
    | exact row_fin (brP_end h hk)
    | (have hb := brP_len c k; simp; omega)
    | (have hb := brP_len c k; show ((brP c k).length + [_].length) * 8 ≤ _; simp; omega)
    | (have hb := brP_len c k; have hm : maxLen = 9223372036854775807 := rfl; simp; omega)
set_option maxRecDepth 100000 in
theorem i_BranchesOf0 (w mem inn : Int) (c : List V.Ins) (hp : progP ⟨w, mem, inn, c⟩ = false) : CallsV Try.prog 51 [.agg [.dat (.i w), .dat (.i mem), .dat (.i inn), .dat (.seq .inss c)]] (.nils) := by
  refine CallsV.of_awp tauOk mixOk Try.func51 rfl rfl rfl ?_
  conv => whnf
  repeat' (first
    | ((with_reducible refine Alt.l ?_); conv => whnf)
    | ((with_reducible refine fun (K1 : AX → AState → Prop) hK => ?_); conv => whnf)
    | ((with_reducible show K1 _ _); subst hK; conv => whnf)
    | (with_reducible exact rfl)
    | ((with_reducible refine sp_T ?_); conv => whnf)
    | ((with_reducible refine sp_F ?_); conv => whnf)
    | ((with_reducible refine sp_T' ?_); conv => whnf)
    | ((with_reducible refine sp_F' ?_); conv => whnf)
    | ((with_reducible refine sp_dF ?_ ?_); decide; conv => whnf)
    | ((with_reducible refine sp_dT ?_ ?_); decide; conv => whnf)
    | ((with_reducible refine sp_d (fun h => ?_) (fun h => ?_)) <;> first | contradiction | (subst h; conv => whnf) | (conv => whnf))
    | ((with_reducible refine sp_d' (fun h => ?_) (fun h => ?_)) <;> first | contradiction | (subst h; conv => whnf) | (conv => whnf))
    | ((with_reducible refine sp_eF ?_ ?_); decide; conv => whnf)
    | ((with_reducible refine sp_eT ?_); conv => whnf)
    | ((with_reducible refine sp_e (fun h => ?_) (fun h => ?_)) <;> first | contradiction | (subst h; conv => whnf) | (conv => whnf))
    | ((with_reducible refine sp_e' (fun h => ?_) (fun h => ?_)) <;> first | contradiction | (subst h; conv => whnf) | (conv => whnf))
    | ((with_reducible refine sp_n (fun h => ?_) (fun h => ?_)) <;> first | contradiction | (subst h; conv => whnf) | (conv => whnf))
    | ((with_reducible refine sp_n' (fun h => ?_) (fun h => ?_)) <;> first | contradiction | (subst h; conv => whnf) | (conv => whnf))
    | ((with_reducible refine sp_nb (fun h => ?_) (fun h => ?_)) <;> first | contradiction | (conv => whnf))
    | ((with_reducible refine sp_nb' (fun h => ?_) (fun h => ?_)) <;> first | contradiction | (conv => whnf))
    | ((with_reducible refine sp_b (fun h => ?_) (fun h => ?_)) <;> first | contradiction | (conv => whnf))
    | ((with_reducible refine sp_b' (fun h => ?_) (fun h => ?_)) <;> first | contradiction | (conv => whnf))
    | (refine ⟨(rfl : nodupB _ = true), rfl, ?_⟩; conv => whnf)
    | (with_reducible refine bnd2 ?_ ?_)
    | (with_reducible refine bnd2' ?_ ?_)
    | (with_reducible refine bndN ?_ ?_)
    | ((with_reducible refine and_of ?_ ?_); conv => whnf)
    | ((with_reducible refine pcI (g := 57) ?_); refine ⟨_, i_ProgramOk .., rfl, ?_⟩; rotate_right; conv => whnf)
    | ((with_reducible show Exists _); refine Exists.intro _ (And.intro (i_ProgramOk ..) (And.intro rfl ?_)); rotate_right; conv => whnf)
    | ((with_reducible show awpOps _ _ _ _ _ _); conv => whnf)
    | (intro h; conv => whnf))
  all_goals (repeat (clear hK; clear K1))
  all_goals first | rfl | trivial | exact absurd ((show progP _ = true by assumption).symm.trans hp) Bool.noConfusion
set_option maxRecDepth 100000 in
theorem l_heldIntS0 (k : Int) : CallsV Try.prog 48 [.dat (.seq .ints []), .dat (.i k)] (.dat (.i k)) := by
  refine CallsV.of_awp tauOk mixOk Try.func48 rfl rfl rfl ?_
  conv => whnf
  repeat' (first
    | ((with_reducible refine Alt.l ?_); conv => whnf)
    | ((with_reducible refine fun (K1 : AX → AState → Prop) hK => ?_); conv => whnf)
    | ((with_reducible show K1 _ _); subst hK; conv => whnf)
    | (with_reducible exact rfl)
    | ((with_reducible refine sp_T ?_); conv => whnf)
    | ((with_reducible refine sp_F ?_); conv => whnf)
    | ((with_reducible refine sp_T' ?_); conv => whnf)
    | ((with_reducible refine sp_F' ?_); conv => whnf)
    | ((with_reducible refine sp_dF ?_ ?_); decide; conv => whnf)
    | ((with_reducible refine sp_dT ?_ ?_); decide; conv => whnf)
    | ((with_reducible refine sp_d (fun h => ?_) (fun h => ?_)) <;> first | contradiction | (subst h; conv => whnf) | (conv => whnf))
    | ((with_reducible refine sp_d' (fun h => ?_) (fun h => ?_)) <;> first | contradiction | (subst h; conv => whnf) | (conv => whnf))
    | ((with_reducible refine sp_eF ?_ ?_); decide; conv => whnf)
    | ((with_reducible refine sp_eT ?_); conv => whnf)
    | ((with_reducible refine sp_e (fun h => ?_) (fun h => ?_)) <;> first | contradiction | (subst h; conv => whnf) | (conv => whnf))
    | ((with_reducible refine sp_e' (fun h => ?_) (fun h => ?_)) <;> first | contradiction | (subst h; conv => whnf) | (conv => whnf))
    | ((with_reducible refine sp_n (fun h => ?_) (fun h => ?_)) <;> first | contradiction | (subst h; conv => whnf) | (conv => whnf))
    | ((with_reducible refine sp_n' (fun h => ?_) (fun h => ?_)) <;> first | contradiction | (subst h; conv => whnf) | (conv => whnf))
    | ((with_reducible refine sp_nb (fun h => ?_) (fun h => ?_)) <;> first | contradiction | (conv => whnf))
    | ((with_reducible refine sp_nb' (fun h => ?_) (fun h => ?_)) <;> first | contradiction | (conv => whnf))
    | ((with_reducible refine sp_b (fun h => ?_) (fun h => ?_)) <;> first | contradiction | (conv => whnf))
    | ((with_reducible refine sp_b' (fun h => ?_) (fun h => ?_)) <;> first | contradiction | (conv => whnf))
    | (refine ⟨(rfl : nodupB _ = true), rfl, ?_⟩; conv => whnf)
    | (with_reducible refine bnd2 ?_ ?_)
    | (with_reducible refine bnd2' ?_ ?_)
    | (with_reducible refine bndN ?_ ?_)
    | ((with_reducible refine and_of ?_ ?_); conv => whnf)
    | (refine Exists.intro (Unit) (Exists.intro (fun _ => mkS Try.f48.ntmps [(0, .dat (.seq .ints [])), (1, .dat (.i k)), (5, .dat (.i 0))] []) (Exists.intro (fun _ => 0) (Exists.intro () (And.intro (SubP.sub (σ := []) ⟨⟨rfl, rfl, rfl⟩, ⟨(wk_dat ?_), (wk_dat ?_), (wk_dat ?_), trivial⟩, trivial⟩) (fun _ => ?_))))); rotate_right; conv => whnf)
    | (refine Exists.intro () (And.intro ?_ (SubP.sub (σ := []) ⟨⟨rfl, rfl, rfl⟩, ⟨(wk_dat ?_), (wk_dat ?_), (wk_dat ?_), trivial⟩, trivial⟩)))
    | ((with_reducible show awpOps _ _ _ _ _ _); conv => whnf)
    | (intro h; conv => whnf))
  all_goals (repeat (clear hK; clear K1))
  all_goals first
    | rfl
    | assumption
    | exact Bool.noConfusion (h.symm.trans hp)
    | omega
    | (dsimp only; omega)
    | exact congrArg (Dat.int .i64) (wrap_succ (by assumption) (by assumption)).symm
set_option maxRecDepth 100000 in
theorem lf_toProgram (w mem inn : Int) (a : List V.Ins) (hl : a.length ≤ 1048576) : CallsF Try.prog 39 [.agg [.dat (.i w), .dat (.i mem), .dat (.i inn), .dat (.seq .inss a)]] true (fun res B => res = .agg [.dat (.i w), .dat (.i mem), .dat (.i inn), .row 0] ∧ B = [.row 35 .inss a false]) := by
  refine CallsF.of_awp tauOk mixOk Try.func39 rfl rfl rfl ?_
  conv => whnf
  repeat' (first
    | ((with_reducible refine Alt.l ?_); conv => whnf)
    | ((with_reducible refine fun (K1 : AX → AState → Prop) hK => ?_); conv => whnf)
    | ((with_reducible show K1 _ _); subst hK; conv => whnf)
    | (with_reducible exact rfl)
    | ((with_reducible refine sp_T ?_); conv => whnf)
    | ((with_reducible refine sp_F ?_); conv => whnf)
    | ((with_reducible refine sp_T' ?_); conv => whnf)
    | ((with_reducible refine sp_F' ?_); conv => whnf)
    | ((with_reducible refine sp_dF ?_ ?_); decide; conv => whnf)
    | ((with_reducible refine sp_dT ?_ ?_); decide; conv => whnf)
    | ((with_reducible refine sp_d (fun h => ?_) (fun h => ?_)) <;> first | contradiction | (subst h; conv => whnf) | (conv => whnf))
    | ((with_reducible refine sp_d' (fun h => ?_) (fun h => ?_)) <;> first | contradiction | (subst h; conv => whnf) | (conv => whnf))
    | ((with_reducible refine sp_eF ?_ ?_); decide; conv => whnf)
    | ((with_reducible refine sp_eT ?_); conv => whnf)
    | ((with_reducible refine sp_e (fun h => ?_) (fun h => ?_)) <;> first | contradiction | (subst h; conv => whnf) | (conv => whnf))
    | ((with_reducible refine sp_e' (fun h => ?_) (fun h => ?_)) <;> first | contradiction | (subst h; conv => whnf) | (conv => whnf))
    | ((with_reducible refine sp_n (fun h => ?_) (fun h => ?_)) <;> first | contradiction | (subst h; conv => whnf) | (conv => whnf))
    | ((with_reducible refine sp_n' (fun h => ?_) (fun h => ?_)) <;> first | contradiction | (subst h; conv => whnf) | (conv => whnf))
    | ((with_reducible refine sp_nb (fun h => ?_) (fun h => ?_)) <;> first | contradiction | (conv => whnf))
    | ((with_reducible refine sp_nb' (fun h => ?_) (fun h => ?_)) <;> first | contradiction | (conv => whnf))
    | ((with_reducible refine sp_b (fun h => ?_) (fun h => ?_)) <;> first | contradiction | (conv => whnf))
    | ((with_reducible refine sp_b' (fun h => ?_) (fun h => ?_)) <;> first | contradiction | (conv => whnf))
    | (refine ⟨(rfl : nodupB _ = true), rfl, ?_⟩; conv => whnf)
    | (with_reducible refine bnd2 ?_ ?_)
    | (with_reducible refine bnd2' ?_ ?_)
    | (with_reducible refine bndN ?_ ?_)
    | ((with_reducible refine and_of ?_ ?_); conv => whnf)
    | ((with_reducible refine fcI (g := 95) ?_); refine ⟨_, _, lf_toInsS (hl := ?_) .., rfl, fun res B hRB => ?_⟩; rotate_right; obtain ⟨rfl, rfl⟩ := hRB; conv => whnf)
    | ((with_reducible show Exists _); refine Exists.intro _ (And.intro (l_toInsS (hl := ?_) ..) (And.intro rfl ?_)); rotate_right; conv => whnf)
    | ((with_reducible show awpOps _ _ _ _ _ _); conv => whnf)
    | (intro h; conv => whnf))
  all_goals (repeat (clear hK; clear K1))
  all_goals first
      | rfl
      | assumption
      | exact Bool.noConfusion (h.symm.trans hp)
      | (simp_all []; done)
      | grind []
      | (simp_all []; omega)
theorem len_of {n : Nat} (h : ¬ (if (1048576 : Int) - (n : Nat) < 0 then (-1 : Int) else 1048576 - (n : Nat)) < 0) : n ≤ 1048576 := by split at h <;> omega
end Vg

namespace Vg
open Go Go.Proofs
theorem bit_test {m k : Nat} (hm : m < 1024) (hk : k ≤ 10) : bitE m k = m.testBit k := by
  have e1 : (2 : Int) ^ (min ((k : Nat) : Int).toNat IntKind.i64.bits) = ((2 ^ k : Nat) : Int) := by
    have hb : IntKind.i64.bits = 64 := rfl
    rw [hb, Int.toNat_natCast, Nat.min_eq_left (by omega)]; simp
  have e2 : ((m : Nat) : Int).fdiv ((2 ^ k : Nat) : Int) = ((m / 2 ^ k : Nat) : Int) := by
    rw [Int.fdiv_eq_ediv_of_nonneg _ (Int.natCast_nonneg _)]; rfl
  have h3 : m / 2 ^ k ≤ m := Nat.div_le_self _ _
  unfold bitE
  rw [e1, e2, Nat.testBit_eq_decide_div_mod_eq]
  generalize m / 2 ^ k = q at h3 ⊢
  rw [BitVec.toNat_and, ofInt_small (a := ((q : Nat) : Int)) (by omega) (by omega), ofInt_small (a := 1) (by omega) (by omega)]
  show (IntKind.i64.wrap (((((q : Nat) : Int).toNat &&& 1 : Nat)) : Int) == 1) = _
  rw [Int.toNat_natCast, Nat.and_one_is_mod, wrap_id (by omega) (by omega)]
  rw [Bool.eq_iff_iff, beq_iff_eq, decide_eq_true_iff]; omega
theorem exists_mask (s : Nat → Bool) : ∀ n : Nat, ∃ m, m < 2 ^ n ∧ ∀ k, k < n → m.testBit k = s k
  | 0 => ⟨0, by simp, fun k h => absurd h (Nat.not_lt_zero k)⟩
  | n + 1 => by
    obtain ⟨m, h1, h2⟩ := exists_mask s n
    cases hs : s n with
    | false =>
      refine ⟨m, by rw [Nat.pow_succ]; omega, fun k hk => ?_⟩
      by_cases e : k = n
      · subst e; rw [hs, Nat.testBit_lt_two_pow h1]
      · exact h2 k (by omega)
    | true =>
      refine ⟨2 ^ n + m, by rw [Nat.pow_succ]; omega, fun k hk => ?_⟩
      by_cases e : k = n
      · subst e; rw [hs, Nat.testBit_two_pow_add_eq, Nat.testBit_lt_two_pow h1]; rfl
      · rw [Nat.testBit_two_pow_add_gt (by omega)]; exact h2 k (by omega)
theorem lst_eq (m : Nat) : ∀ n, lstTo m n = ((List.range n).filter fun k => bitE m (k : Nat)).map fun i => ((i : Nat) : Int)
  | 0 => rfl
  | n + 1 => by
    simp only [lstTo, lst_eq m n, List.range_succ, List.filter_append, List.map_append]
    cases h : bitE m (n : Nat) <;> simp [h]
theorem lst_mem {m n : Nat} {x : Int} : x ∈ lstTo m n ↔ ∃ k : Nat, k < n ∧ bitE m (k : Nat) = true ∧ x = (k : Nat) := by
  rw [lst_eq]
  simp only [List.mem_map, List.mem_filter, List.mem_range]
  constructor
  · rintro ⟨k, ⟨h1, h2⟩, rfl⟩; exact ⟨k, h1, h2, rfl⟩
  · rintro ⟨k, h1, h2, rfl⟩; exact ⟨k, ⟨h1, h2⟩, rfl⟩
theorem lst_strict (m : Nat) : ∀ n, Strict (lstTo m n)
  | 0 => List.Pairwise.nil
  | n + 1 => by
    simp only [lstTo]
    refine List.pairwise_append.2 ⟨lst_strict m n, by split <;> simp, fun x hx y hy => ?_⟩
    obtain ⟨k, h1, _, rfl⟩ := lst_mem.1 hx
    split at hy
    · rw [List.mem_singleton] at hy; subst hy; omega
    · simp at hy
def covM (p : V.Prog) (ts : List (List Int)) (fuel : Int) (m : Nat) : Prop := asc (gotTo p ts fuel m ts.length) = asc (allTo p ts fuel ts.length)
theorem best_inv (p : V.Prog) (ts : List (List Int)) (fuel : Int) : ∀ M, ((bestTo p ts fuel M).2 = false ∧ ∀ m, m < M → ¬ covM p ts fuel m) ∨
    ((bestTo p ts fuel M).2 = true ∧ ∃ m, m < M ∧ (bestTo p ts fuel M).1 = lstTo m ts.length ∧ covM p ts fuel m ∧ ∀ m', m' < M → covM p ts fuel m' → (bestTo p ts fuel M).1.length ≤ (lstTo m' ts.length).length)
  | 0 => .inl ⟨rfl, fun m h => absurd h (Nat.not_lt_zero m)⟩
  | M + 1 => by
    rcases best_inv p ts fuel M with ⟨h1, h2⟩ | ⟨h1, m, h2, h3, h4, h5⟩
    · by_cases hc : covM p ts fuel M
      · right
        rw [best_yes hc (.inl h1)]
        refine ⟨rfl, M, by omega, rfl, hc, fun m' hm' hc' => ?_⟩
        by_cases e : m' = M
        · subst e; exact Nat.le_refl _
        · exact absurd hc' (h2 m' (by omega))
      · left
        rw [best_no hc]
        refine ⟨h1, fun m hm => ?_⟩
        by_cases e : m = M
        · subst e; exact hc
        · exact h2 m (by omega)
    · right
      by_cases hc : covM p ts fuel M ∧ ((bestTo p ts fuel M).2 = false ∨ (lstTo M ts.length).length < (bestTo p ts fuel M).1.length ∨ ((lstTo M ts.length).length = (bestTo p ts fuel M).1.length ∧ lessL (lstTo M ts.length) (bestTo p ts fuel M).1 = true))
      · rw [best_yes hc.1 hc.2]
        refine ⟨rfl, M, by omega, rfl, hc.1, fun m' hm' hc' => ?_⟩
        by_cases e : m' = M
        · subst e; exact Nat.le_refl _
        · have := h5 m' (by omega) hc'
          rcases hc.2 with h | h | h
          · rw [h1] at h; cases h
          · simp only; omega
          · simp only; omega
      · have e : bestTo p ts fuel (M + 1) = bestTo p ts fuel M := by
          simp only [bestTo]; exact if_neg hc
        rw [e]
        refine ⟨h1, m, by omega, h3, h4, fun m' hm' hc' => ?_⟩
        by_cases e : m' = M
        · subst e
          have hn : ¬ _ := fun x => hc ⟨hc', x⟩
          have : ¬ (lstTo m' ts.length).length < (bestTo p ts fuel m').1.length := fun x => hn (.inr (.inl x))
          omega
        · exact h5 m' (by omega) hc'
theorem got_memT {p : V.Prog} {ts : List (List Int)} {fuel : Int} {m : Nat} {x : Int} : x ∈ asc (gotTo p ts fuel m ts.length) ↔ ∃ i : Nat, i < ts.length ∧ bitE m i = true ∧ x ∈ rawTo p (ts.getD i []) fuel.toNat := by
  rw [asc_mem, got_mem]
theorem all_memT {p : V.Prog} {ts : List (List Int)} {fuel : Int} {x : Int} : x ∈ asc (allTo p ts fuel ts.length) ↔ ∃ i : Nat, i < ts.length ∧ x ∈ rawTo p (ts.getD i []) fuel.toNat := by
  rw [asc_mem, all_mem]
structure BestI (p : V.Prog) (ts : List (List Int)) (fuel : Int) (L : List Int) (m : Nat) : Prop where
  hm : m < 2 ^ ts.length
  eq : L = lstTo m ts.length
  cov : covM p ts fuel m
  min : ∀ m', m' < 2 ^ ts.length → covM p ts fuel m' → L.length ≤ (lstTo m' ts.length).length
theorem best_is {p : V.Prog} {ts : List (List Int)} {fuel : Int} (h10 : ts.length ≤ 10) : ∃ m, BestI p ts fuel (bestTo p ts fuel (2 ^ ts.length)).1 m := by
  rcases best_inv p ts fuel (2 ^ ts.length) with ⟨_, h2⟩ | ⟨_, m, h2, h3, h4, h5⟩
  · exfalso
    obtain ⟨m, h1, h3⟩ := exists_mask (fun _ => true) ts.length
    have hp := pow_le h10
    refine h2 m h1 (asc_eq fun x => ?_)
    rw [got_mem, all_mem]
    constructor
    · rintro ⟨i, a, _, b⟩; exact ⟨i, a, b⟩
    · rintro ⟨i, a, b⟩; exact ⟨i, a, by rw [bit_test (by omega) (by omega)]; exact h3 i a, b⟩
  · exact ⟨m, h2, h3, h4, h5⟩
def skipTo (ts : List (List Int)) (L : List Int) (skip : Int) : Nat → List (List Int)
  | 0 => []
  | j + 1 => skipTo ts L skip j ++ if ((j : Nat) : Int) = skip then [] else [ts.getD (L.getD j K.ints.dflt).toNat []]
theorem skip_mem {ts : List (List Int)} {L : List Int} {skip : Int} {t : List Int} : ∀ {j : Nat}, t ∈ skipTo ts L skip j ↔ ∃ i : Nat, i < j ∧ ¬ ((i : Nat) : Int) = skip ∧ t = ts.getD (L.getD i K.ints.dflt).toNat []
  | 0 => by simp [skipTo]
  | j + 1 => by
    simp only [skipTo, List.mem_append, skip_mem (j := j)]
    constructor
    · rintro (⟨i, h1, h2⟩ | h)
      · exact ⟨i, by omega, h2⟩
      · split at h
        · simp at h
        · rw [List.mem_singleton] at h; subst h; exact ⟨j, by omega, by assumption, rfl⟩
    · rintro ⟨i, h1, h2, rfl⟩
      by_cases e : i = j
      · subst e; right; rw [if_neg h2]; exact List.mem_singleton.2 rfl
      · exact .inl ⟨i, by omega, h2, rfl⟩
theorem skip_len (ts : List (List Int)) (L : List Int) (skip : Int) : ∀ j, (skipTo ts L skip j).length ≤ j
  | 0 => Nat.le_refl _
  | j + 1 => by have := skip_len ts L skip j; simp only [skipTo, List.length_append]; split <;> simp <;> omega
theorem getD_at {L : List Int} {i : Nat} (h : i < L.length) : L.getD i K.ints.dflt = L[i] := by
  rw [List.getD_eq_getElem?_getD, List.getElem?_eq_getElem h]; rfl
theorem strict_inj {L : List Int} (h : Strict L) {i j : Nat} (hi : i < L.length) (hj : j < L.length) (e : L[i] = L[j]) : i = j := by
  have := List.pairwise_iff_getElem.1 h
  rcases Nat.lt_trichotomy i j with h1 | h1 | h1
  · have := this i j hi hj h1; omega
  · exact h1
  · have := this j i hj hi h1; omega
theorem skip_all {p : V.Prog} {ts : List (List Int)} {fuel : Int} {L : List Int} {m : Nat} (h : BestI p ts fuel L m) : asc (allTo p (skipTo ts L (-1) L.length) fuel (skipTo ts L (-1) L.length).length) = asc (allTo p ts fuel ts.length) := by
  rw [← h.cov]
  refine asc_eq fun x => ?_
  rw [all_mem', got_mem]
  constructor
  · rintro ⟨t, h1, h2⟩
    obtain ⟨i, h3, _, rfl⟩ := skip_mem.1 h1
    have hm : L[i] ∈ L := List.getElem_mem h3
    rw [getD_at h3] at h2
    generalize L[i] = y at hm h2
    rw [h.eq] at hm
    obtain ⟨k, a, b, rfl⟩ := lst_mem.1 hm
    exact ⟨k, a, b, by rwa [Int.toNat_natCast] at h2⟩
  · rintro ⟨k, a, b, h2⟩
    have hm : ((k : Nat) : Int) ∈ L := by rw [h.eq]; exact lst_mem.2 ⟨k, a, b, rfl⟩
    obtain ⟨i, hi, e⟩ := List.getElem_of_mem hm
    exact ⟨_, skip_mem.2 ⟨i, hi, by omega, rfl⟩, by rw [getD_at hi, e, Int.toNat_natCast]; exact h2⟩
theorem skip_one {p : V.Prog} {ts : List (List Int)} {fuel : Int} {L : List Int} {m s : Nat} (h10 : ts.length ≤ 10) (h : BestI p ts fuel L m) (hs : s < L.length) : ¬ asc (allTo p (skipTo ts L (s : Nat) L.length) fuel (skipTo ts L (s : Nat) L.length).length) = asc (allTo p ts fuel ts.length) := by
  intro hE
  have hst : Strict L := by rw [h.eq]; exact lst_strict m _
  have hp := pow_le h10
  have hm := h.hm
  obtain ⟨m', h1, h2⟩ := exists_mask (fun k => bitE m (k : Nat) && !decide (((k : Nat) : Int) = L[s])) ts.length
  have hb : ∀ k, k < ts.length → bitE m' (k : Nat) = (bitE m (k : Nat) && !decide (((k : Nat) : Int) = L[s])) := fun k hk => by
    rw [bit_test (by omega) (by omega)]; exact h2 k hk
  have hc : covM p ts fuel m' := by
    unfold covM
    rw [← hE]
    refine asc_eq fun x => ?_
    rw [all_mem', got_mem]
    constructor
    · rintro ⟨k, a, b, c⟩
      rw [hb k a] at b
      simp only [Bool.and_eq_true, Bool.not_eq_true', decide_eq_false_iff_not] at b
      have hmem : ((k : Nat) : Int) ∈ L := by rw [h.eq]; exact lst_mem.2 ⟨k, a, b.1, rfl⟩
      obtain ⟨i, hi, e⟩ := List.getElem_of_mem hmem
      refine ⟨_, skip_mem.2 ⟨i, hi, fun e' => b.2 ?_, rfl⟩, by rw [getD_at hi, e, Int.toNat_natCast]; exact c⟩
      have : i = s := by omega
      subst this; exact e.symm
    · rintro ⟨t, a, b⟩
      obtain ⟨i, h3, h4, rfl⟩ := skip_mem.1 a
      have hmem : L[i] ∈ L := List.getElem_mem h3
      have hne : ¬ L[i] = L[s] := fun e => h4 (by have := strict_inj hst h3 hs e; omega)
      rw [getD_at h3] at b
      generalize L[i] = y at hmem hne b
      rw [h.eq] at hmem
      obtain ⟨k, c, d, rfl⟩ := lst_mem.1 hmem
      refine ⟨k, c, ?_, by rwa [Int.toNat_natCast] at b⟩
      rw [hb k c, d, decide_eq_false hne]; rfl
  have hlt : (lstTo m' ts.length).length < L.length := by
    have e : lstTo m' ts.length = L.filter fun x => !decide (x = L[s]) := by
      have hL := h.eq
      refine strict_eq (lst_strict m' _) (hst.filter _) fun x => ?_
      rw [lst_mem, List.mem_filter]
      constructor
      · rintro ⟨k, a, b, rfl⟩
        rw [hb k a] at b
        simp only [Bool.and_eq_true] at b
        exact ⟨by rw [hL]; exact lst_mem.2 ⟨k, a, b.1, rfl⟩, b.2⟩
      · rintro ⟨a, b⟩
        rw [hL] at a
        obtain ⟨k, c, d, rfl⟩ := lst_mem.1 a
        exact ⟨k, c, by rw [hb k c, d, b]; rfl, rfl⟩
    rw [e]
    exact List.length_filter_lt_length_iff_exists.2 ⟨L[s], List.getElem_mem hs, by simp⟩
  have := h.min m' h1 hc
  omega
theorem raw_edge {p : V.Prog} {inp : List Int} (hi : inputsP p inp = true) : ∀ (k : Nat), ∀ x ∈ rawTo p inp k, ∃ pc : Nat, pc < p.code.length ∧ (p.code.getD pc K.inss.dflt).op = 10 ∧ x.fdiv 2 = (pc : Nat)
  | 0 => fun x hx => by simp [rawTo] at hx
  | k + 1 => fun x hx => by
    simp only [rawTo, List.mem_append] at hx
    rcases hx with hx | hx
    · exact raw_edge hi k x hx
    · unfold edgeAt at hx
      split at hx
      · rename_i h
        rw [List.mem_singleton] at hx
        subst hx
        have h1 := (run_ok hi k).pc
        have h3 : ∀ b, 0 ≤ truthP b ∧ truthP b ≤ 1 := fun b => by cases b <;> decide
        have h4 := h3 (decide ((runM p inp k).regs.getD (p.code.getD (runM p inp k).pc.toNat K.inss.dflt).a.toNat K.ints.dflt = 0))
        have h5 := h.2.2.1
        refine ⟨(runM p inp k).pc.toNat, by omega, h.2.2.2, ?_⟩
        rw [Int.fdiv_eq_ediv_of_nonneg _ (by omega)]
        omega
      · simp at hx
theorem edge_branch {p : V.Prog} {ts : List (List Int)} {fuel : Int} (h : ts.all (fun x => inputsP p x) = true) {x : Int} (hx : x ∈ asc (allTo p ts fuel ts.length)) : x.fdiv 2 ∈ brP p.code p.code.length := by
  obtain ⟨i, h1, h2⟩ := all_memT.1 hx
  obtain ⟨pc, a, b, c⟩ := raw_edge (all_at h (by omega)) _ x h2
  unfold brP
  rw [c, List.mem_map]
  exact ⟨pc, List.mem_filter.2 ⟨List.mem_range.2 a, by rw [b]; rfl⟩, rfl⟩
end Vg

namespace Vg
open Go Go.Proofs
def cvT (b : List Int) (w inn N : Int) : Nat → List (List Int)
  | 0 => []
  | j + 1 => cvT b w inn N j ++ [givL w b (70 + 3 * (N - (j : Nat))) inn.toNat]
theorem cvT_len (b : List Int) (w inn N : Int) : ∀ j, (cvT b w inn N j).length = j
  | 0 => rfl
  | j + 1 => by rw [cvT, List.length_append, cvT_len b w inn N j]; rfl
theorem cvT_ok {w mem inn : Int} {c : List V.Ins} (b : List Int) (N : Int) (hp : progP ⟨w, mem, inn, c⟩ = true) : ∀ j, (cvT b w inn N j).all (fun x => inputsP ⟨w, mem, inn, c⟩ x) = true
  | 0 => rfl
  | j + 1 => by
    have h := giv_ok b (70 + 3 * (N - (j : Nat))) hp
    simp only at h
    rw [cvT, List.all_append, cvT_ok b N hp j]; simp [h]
theorem cvN {j : Nat} {N : Int} (h0 : 0 ≤ N) (h5 : N ≤ 5) (hj : (j : Int) ≤ N) : IntKind.i64.wrap (70 + IntKind.i64.wrap (3 * (N - (j : Nat)))) = 70 + 3 * (N - (j : Nat)) := by
  rw [wrap_id (n := 3 * (N - (j : Nat))) (by omega) (by omega), wrap_id (by omega) (by omega)]
theorem szN62 (b : List Int) : 0 ≤ sizeX b 62 0 5 ∧ sizeX b 62 0 5 ≤ 5 := sizeX_r b 62 (by decide)
theorem cvT_step {b : List Int} {w inn : Int} {j : Nat} (hj : (j : Int) ≤ sizeX b 62 0 5) : cvT b w inn (sizeX b 62 0 5) (j + 1) = cvT b w inn (sizeX b 62 0 5) j ++ [givL w b (IntKind.i64.wrap (70 + IntKind.i64.wrap (3 * (sizeX b 62 0 5 - (j : Nat))))) inn.toNat] := by
  rw [cvN (szN62 b).1 (szN62 b).2 hj]; rfl
theorem fu60 (b : List Int) : inP (sizeX b 60 0 40) 0 400 = true := by
  have := sizeX_r b 60 (lo := 0) (hi := 40) (by decide)
  simp [inP]; omega
theorem cvT_10 {b : List Int} {w inn : Int} {j : Nat} (hj : (j : Int) ≤ sizeX b 62 0 5) : (cvT b w inn (sizeX b 62 0 5) j).length ≤ 10 := by
  have := szN62 b
  rw [cvT_len]; omega
section
variable {p : V.Prog} {ts : List (List Int)} {fuel : Int} {i s : Nat}
theorem L_at (h10 : ts.length ≤ 10) (hi : (i : Int) < (bestTo p ts fuel (2 ^ ts.length)).1.length) : 0 ≤ (bestTo p ts fuel (2 ^ ts.length)).1.getD (i : Int).toNat K.ints.dflt ∧ (bestTo p ts fuel (2 ^ ts.length)).1.getD (i : Int).toNat K.ints.dflt < ts.length := by
  obtain ⟨m, h⟩ := best_is (p := p) (fuel := fuel) h10
  have hi' : i < (bestTo p ts fuel (2 ^ ts.length)).1.length := by omega
  rw [Int.toNat_natCast, getD_at hi']
  have hm : (bestTo p ts fuel (2 ^ ts.length)).1[i] ∈ (bestTo p ts fuel (2 ^ ts.length)).1 := List.getElem_mem hi'
  generalize (bestTo p ts fuel (2 ^ ts.length)).1[i] = y at hm
  rw [h.eq] at hm
  obtain ⟨k, a, _, rfl⟩ := lst_mem.1 hm
  omega
theorem L_no1 (h10 : ts.length ≤ 10) (hi : (i : Int) < (bestTo p ts fuel (2 ^ ts.length)).1.length) (h : (bestTo p ts fuel (2 ^ ts.length)).1.getD (i : Int).toNat K.ints.dflt < 0) : False := by have := L_at h10 hi; omega
theorem L_no2 (h10 : ts.length ≤ 10) (hi : (i : Int) < (bestTo p ts fuel (2 ^ ts.length)).1.length) (h : (bestTo p ts fuel (2 ^ ts.length)).1.getD (i : Int).toNat K.ints.dflt ≥ (ts.length : Int)) : False := by have := L_at h10 hi; omega
theorem L_no3 (h10 : ts.length ≤ 10) (hi : (i : Int) < (bestTo p ts fuel (2 ^ ts.length)).1.length) (h0 : (i : Int) > 0) (h : (bestTo p ts fuel (2 ^ ts.length)).1.getD (IntKind.i64.wrap ((i : Int) - 1)).toNat K.ints.dflt ≥ (bestTo p ts fuel (2 ^ ts.length)).1.getD (i : Int).toNat K.ints.dflt) : False := by
  obtain ⟨m, hb⟩ := best_is (p := p) (fuel := fuel) h10
  have hl := best_len p ts fuel (2 ^ ts.length)
  have hi' : i < (bestTo p ts fuel (2 ^ ts.length)).1.length := by omega
  have hst : Strict (bestTo p ts fuel (2 ^ ts.length)).1 := by rw [hb.eq]; exact lst_strict m _
  rw [wrap_id (by omega) (by omega), show ((i : Int) - 1).toNat = i - 1 from by omega, Int.toNat_natCast, getD_at hi', getD_at (show i - 1 < _ by omega)] at h
  have := List.pairwise_iff_getElem.1 hst (i - 1) i (by omega) hi' (by omega)
  omega
theorem idx_lo (hi : (i : Int) < (bestTo p ts fuel (2 ^ ts.length)).1.length) (h10 : ts.length ≤ 10) (h0 : (i : Int) > 0) : 0 ≤ IntKind.i64.wrap ((i : Int) - 1) ∧ IntKind.i64.wrap ((i : Int) - 1) < (bestTo p ts fuel (2 ^ ts.length)).1.length := by
  have hl := best_len p ts fuel (2 ^ ts.length)
  rw [wrap_id (by omega) (by omega)]; omega
theorem skip_y {L : List Int} (h : (i : Int) = (s : Int) - 1) : skipTo ts L ((s : Int) - 1) (i + 1) = skipTo ts L ((s : Int) - 1) i := by
  simp only [skipTo]; rw [if_pos h, List.append_nil]
theorem skip_n {L : List Int} (h : ¬ (i : Int) = (s : Int) - 1) : skipTo ts L ((s : Int) - 1) (i + 1) = skipTo ts L ((s : Int) - 1) i ++ [ts.getD (L.getD (i : Int).toNat K.ints.dflt).toNat K.intss.dflt] := by
  rw [Int.toNat_natCast]; simp only [skipTo]; rw [if_neg h]; rfl
theorem skip_ok (h10 : ts.length ≤ 10) (h : ts.all (fun x => inputsP p x) = true) (hi : i ≤ (bestTo p ts fuel (2 ^ ts.length)).1.length) : (skipTo ts (bestTo p ts fuel (2 ^ ts.length)).1 ((s : Int) - 1) i).all (fun x => inputsP p x) = true := by
  rw [List.all_eq_true]
  intro t ht
  obtain ⟨k, a, _, rfl⟩ := skip_mem.1 ht
  have := L_at (p := p) (fuel := fuel) (i := k) h10 (by omega)
  rw [Int.toNat_natCast] at this
  exact all_at h (by omega)
theorem skip_10 (h10 : ts.length ≤ 10) (hi : i ≤ (bestTo p ts fuel (2 ^ ts.length)).1.length) : (skipTo ts (bestTo p ts fuel (2 ^ ts.length)).1 ((s : Int) - 1) i).length ≤ 10 := by
  have h1 := skip_len ts (bestTo p ts fuel (2 ^ ts.length)).1 ((s : Int) - 1) i
  have hl := best_len p ts fuel (2 ^ ts.length)
  omega
theorem cov_chk (h10 : ts.length ≤ 10) (hi : i ≤ (bestTo p ts fuel (2 ^ ts.length)).1.length) (hi2 : ¬ (i : Int) < (bestTo p ts fuel (2 ^ ts.length)).1.length) (hs : (s : Int) - 1 < (bestTo p ts fuel (2 ^ ts.length)).1.length)
    (h : (decide (asc (allTo p (skipTo ts (bestTo p ts fuel (2 ^ ts.length)).1 ((s : Int) - 1) i) fuel (skipTo ts (bestTo p ts fuel (2 ^ ts.length)).1 ((s : Int) - 1) i).length) = asc (allTo p ts fuel ts.length)) == decide ((s : Int) - 1 < 0)) = false) : False := by
  obtain ⟨m, hb⟩ := best_is (p := p) (fuel := fuel) h10
  obtain rfl : i = (bestTo p ts fuel (2 ^ ts.length)).1.length := by omega
  cases s with
  | zero =>
    have e := skip_all hb
    rw [show (((0 : Nat) : Int) - 1) = -1 from rfl, decide_eq_true e] at h
    exact absurd h (by decide)
  | succ s =>
    have e := skip_one (s := s) h10 hb (by omega)
    rw [show (((s + 1 : Nat) : Int) - 1) = ((s : Nat) : Int) from by omega, decide_eq_false e, decide_eq_false (by omega)] at h
    exact absurd h (by decide)
theorem skip_w (hs : (s : Int) - 1 < (bestTo p ts fuel (2 ^ ts.length)).1.length) (h10 : ts.length ≤ 10) : Dat.i (((s + 1 : Nat) : Int) - 1) = Dat.int .i64 (IntKind.i64.wrap ((s : Int) - 1 + 1)) := by
  have hl := best_len p ts fuel (2 ^ ts.length)
  rw [wrap_id (by omega) (by omega), show ((s + 1 : Nat) : Int) - 1 = (s : Int) - 1 + 1 from by omega]
end
theorem fv_y {l : List Int} {x : Int} {m : Nat} (h : decide (x ∈ l.take m) = true) : Dat.bool (decide (x ∈ l.take (m + 1))) = Dat.bool true :=
  congrArg Dat.bool (decide_eq_true (List.mem_of_mem_take (i := m) (by rw [List.take_take, Nat.min_eq_left (by omega)]; exact of_decide_eq_true h)))
theorem fv_n {l : List Int} {x : Int} {m : Nat} (h : decide (x ∈ l.take m) = false) (hm : (m : Int) < l.length) : Dat.bool (decide (x ∈ l.take (m + 1))) = Dat.bool (x == l.getD (m : Int).toNat K.ints.dflt) := by
  have hm' : m < l.length := by omega
  have h' := of_decide_eq_false h
  refine congrArg Dat.bool ?_
  rw [Int.toNat_natCast, List.take_succ_eq_append_getElem hm', List.getD_eq_getElem?_getD, List.getElem?_eq_getElem hm', Option.getD_some, Bool.eq_iff_iff, decide_eq_true_iff, beq_iff_eq, List.mem_append, List.mem_singleton]
  exact ⟨fun h => h.elim (fun h => absurd h h') id, .inr⟩
theorem fv_y2 {l : List Int} {x : Int} {m : Nat} (h : x ∈ l.take m) : Dat.bool (decide (x ∈ l.take (m + 1))) = Dat.bool true := fv_y (decide_eq_true h)
theorem fv_n2 {l : List Int} {x : Int} {m : Nat} (h : ¬ x ∈ l.take m) (hm : (m : Int) < l.length) : Dat.bool (decide (x ∈ l.take (m + 1))) = Dat.bool (x == l.getD (m : Int).toNat K.ints.dflt) := fv_n (decide_eq_false h) hm
theorem cvT_00 (b : List Int) (w inn N : Int) : cvT b w inn N 0 = [] := rfl
theorem sub_00 (x : Int) : x - ((0 : Nat) : Int) = x := by omega
theorem skip_0 (ts : List (List Int)) (L : List Int) (skip : Int) : skipTo ts L skip 0 = [] := rfl
theorem cap24 {a b : Nat} (h : a + b ≤ 1000000) : (a + b) * 24 ≤ 140737488355328 := by omega
theorem capX {a b : Nat} (h : a + b ≤ 1000000) : a + b ≤ maxLen := by have hm : maxLen = 9223372036854775807 := rfl; omega
theorem fv_0 (x : Int) (l : List Int) : Dat.bool (decide (x ∈ l.take 0)) = Dat.bool false := by simp
theorem br_at {p : V.Prog} {ts : List (List Int)} {fuel : Int} {e q : Nat} (h : ts.all (fun x => inputsP p x) = true) (he : (e : Int) < (asc (allTo p ts fuel ts.length)).length) (hq : ¬ (q : Int) < (brP p.code p.code.length).length)
    (hf : decide (((asc (allTo p ts fuel ts.length)).getD (e : Int).toNat K.ints.dflt).fdiv (2 ^ (min (1 : Int).toNat IntKind.i64.bits)) ∈ (brP p.code p.code.length).take q) = false) : False := by
  have he' : e < (asc (allTo p ts fuel ts.length)).length := by omega
  rw [List.take_of_length_le (by omega), Int.toNat_natCast, getD_at he'] at hf
  exact of_decide_eq_false hf (edge_branch h (List.getElem_mem he'))
set_option maxHeartbeats 16000000 in
set_option maxRecDepth 100000 in
theorem law_FV (b : List Int) : CallsV Try.prog 7 [.dat (.seq .bytes b)] (.dat (.bool true)) := by
  refine CallsV.of_awp tauOk mixOk Try.func7 rfl rfl rfl ?_
  conv => whnf
  repeat' (first
    | ((with_reducible refine fun (K1 : AX → AState → Prop) hK => ?_); (with_reducible refine awp_rg ?_ ?_); exact rfl; conv => whnf)
    | ((with_reducible refine Alt.l ?_); conv => whnf)
    | ((with_reducible refine fun (K1 : AX → AState → Prop) hK => ?_); conv => whnf)
    | ((with_reducible show K1 _ _); subst hK; conv => whnf)
    | (with_reducible exact rfl)
    | ((with_reducible refine sp_T ?_); conv => whnf)
    | ((with_reducible refine sp_F ?_); conv => whnf)
    | ((with_reducible refine sp_T' ?_); conv => whnf)
    | ((with_reducible refine sp_F' ?_); conv => whnf)
    | ((with_reducible refine sp_dF ?_ ?_); decide; conv => whnf)
    | ((with_reducible refine sp_dT ?_ ?_); decide; conv => whnf)
    | ((with_reducible refine sp_d (fun h => ?_) (fun h => ?_)) <;> first | contradiction | (subst h; conv => whnf) | (conv => whnf))
    | ((with_reducible refine sp_d' (fun h => ?_) (fun h => ?_)) <;> first | contradiction | (subst h; conv => whnf) | (conv => whnf))
    | ((with_reducible refine sp_eF ?_ ?_); decide; conv => whnf)
    | ((with_reducible refine sp_eT ?_); conv => whnf)
    | ((with_reducible refine sp_e (fun h => ?_) (fun h => ?_)) <;> first | contradiction | (subst h; conv => whnf) | (conv => whnf))
    | ((with_reducible refine sp_e' (fun h => ?_) (fun h => ?_)) <;> first | contradiction | (subst h; conv => whnf) | (conv => whnf))
    | ((with_reducible refine sp_n (fun h => ?_) (fun h => ?_)) <;> first | contradiction | (subst h; conv => whnf) | (conv => whnf))
    | ((with_reducible refine sp_n' (fun h => ?_) (fun h => ?_)) <;> first | contradiction | (subst h; conv => whnf) | (conv => whnf))
    | ((with_reducible refine sp_nb (fun h => ?_) (fun h => ?_)) <;> first | (exact Bool.noConfusion (Eq.trans (Eq.symm h) (show _ = true by with_reducible assumption))) | (exact Bool.noConfusion (Eq.trans (Eq.symm (show _ = false by with_reducible assumption)) h)) | (conv => whnf))
    | ((with_reducible refine sp_nb' (fun h => ?_) (fun h => ?_)) <;> first | (exact Bool.noConfusion (Eq.trans (Eq.symm h) (show _ = true by with_reducible assumption))) | (exact Bool.noConfusion (Eq.trans (Eq.symm (show _ = false by with_reducible assumption)) h)) | (conv => whnf))
    | ((with_reducible refine sp_b (fun h => ?_) (fun h => ?_)) <;> first | (exact Bool.noConfusion (Eq.trans (Eq.symm h) (show _ = true by with_reducible assumption))) | (exact Bool.noConfusion (Eq.trans (Eq.symm (show _ = false by with_reducible assumption)) h)) | (conv => whnf))
    | ((with_reducible refine sp_b' (fun h => ?_) (fun h => ?_)) <;> first | (exact Bool.noConfusion (Eq.trans (Eq.symm h) (show _ = true by with_reducible assumption))) | (exact Bool.noConfusion (Eq.trans (Eq.symm (show _ = false by with_reducible assumption)) h)) | (conv => whnf))
    | (refine ⟨(rfl : nodupB _ = true), rfl, ?_⟩; conv => whnf)
    | (with_reducible refine bnd2 ?_ ?_)
    | (with_reducible refine bnd2' ?_ ?_)
    | (with_reducible refine bndN ?_ ?_)
    | ((with_reducible refine and_of ?_ ?_); conv => whnf)
    | (refine Exists.intro ({q : Nat // q ≤ (brP code code.length).length}) (Exists.intro (fun ⟨q, hq⟩ => mkS Try.f7.ntmps [(13, .row 113), (115, .row 107), (116, .dat (.i (asc (allTo ⟨w, mem, inn, code⟩ (cvT b w inn (sizeX b 62 0 5) j) (sizeX b 60 0 40) (cvT b w inn (sizeX b 62 0 5) j).length)).length)), (117, .dat (.i e)), (15, .dat (.i ((asc (allTo ⟨w, mem, inn, code⟩ (cvT b w inn (sizeX b 62 0 5) j) (sizeX b 60 0 40) (cvT b w inn (sizeX b 62 0 5) j).length)).getD ((e : Nat) : Int).toNat K.ints.dflt))), (16, .dat (.bool (decide ((((asc (allTo ⟨w, mem, inn, code⟩ (cvT b w inn (sizeX b 62 0 5) j) (sizeX b 60 0 40) (cvT b w inn (sizeX b 62 0 5) j).length)).getD ((e : Nat) : Int).toNat K.ints.dflt).fdiv (2 ^ (min (1 : Int).toNat IntKind.i64.bits))) ∈ (brP code code.length).take q)))), (121, .row 113), (122, .dat (.i (brP code code.length).length)), (123, .dat (.i q))] [(107, .row 3 .ints (asc (allTo ⟨w, mem, inn, code⟩ (cvT b w inn (sizeX b 62 0 5) j) (sizeX b 60 0 40) (cvT b w inn (sizeX b 62 0 5) j).length)) false), (113, .row 3 .ints (brP code code.length) false)]) (Exists.intro (fun ⟨q, hq⟩ => (brP code code.length).length - q) (Exists.intro ⟨0, Nat.zero_le _⟩ (And.intro (SubP.sub (σ := [(107, some 107), (113, some 113)]) ⟨⟨rfl, rfl, rfl⟩, ⟨rfl, rfl, (wk_dat ?_), (wk_dat ?_), (wk_dat ?_), (wk_dat ?_), rfl, (wk_dat ?_), (wk_dat ?_), trivial⟩, ⟨⟨⟨rfl, rfl⟩, ?_⟩, ⟨⟨rfl, rfl⟩, ?_⟩, trivial⟩⟩) (fun ⟨q, hq⟩ => ?_))))); rotate_right; conv => whnf)
    | (refine Exists.intro (⟨q + 1, ?_⟩ : {q : Nat // q ≤ (brP code code.length).length}) (And.intro ?_ (SubP.sub (σ := [(107, some 107), (113, some 113)]) ⟨⟨rfl, rfl, rfl⟩, ⟨rfl, rfl, (wk_dat ?_), (wk_dat ?_), (wk_dat ?_), (wk_dat ?_), rfl, (wk_dat ?_), (wk_dat ?_), trivial⟩, ⟨⟨⟨rfl, rfl⟩, ?_⟩, ⟨⟨rfl, rfl⟩, ?_⟩, trivial⟩⟩)))
    | (refine Exists.intro ({e : Nat // e ≤ (asc (allTo ⟨w, mem, inn, code⟩ (cvT b w inn (sizeX b 62 0 5) j) (sizeX b 60 0 40) (cvT b w inn (sizeX b 62 0 5) j).length)).length}) (Exists.intro (fun ⟨e, he⟩ => mkS Try.f7.ntmps [(13, .row 113), (115, .row 107), (116, .dat (.i (asc (allTo ⟨w, mem, inn, code⟩ (cvT b w inn (sizeX b 62 0 5) j) (sizeX b 60 0 40) (cvT b w inn (sizeX b 62 0 5) j).length)).length)), (117, .dat (.i e))] [(107, .row 3 .ints (asc (allTo ⟨w, mem, inn, code⟩ (cvT b w inn (sizeX b 62 0 5) j) (sizeX b 60 0 40) (cvT b w inn (sizeX b 62 0 5) j).length)) false), (113, .row 3 .ints (brP code code.length) false)]) (Exists.intro (fun ⟨e, he⟩ => (asc (allTo ⟨w, mem, inn, code⟩ (cvT b w inn (sizeX b 62 0 5) j) (sizeX b 60 0 40) (cvT b w inn (sizeX b 62 0 5) j).length)).length - e) (Exists.intro ⟨0, Nat.zero_le _⟩ (And.intro (SubP.sub (σ := [(107, some 107), (113, some 115000)]) ⟨⟨rfl, rfl, rfl⟩, ⟨rfl, rfl, (wk_dat ?_), (wk_dat ?_), trivial⟩, ⟨⟨⟨rfl, rfl⟩, ?_⟩, ⟨⟨rfl, rfl⟩, ?_⟩, trivial⟩⟩) (fun ⟨e, he⟩ => ?_))))); rotate_right; conv => whnf)
    | (refine Exists.intro (⟨e + 1, ?_⟩ : {e : Nat // e ≤ (asc (allTo ⟨w, mem, inn, code⟩ (cvT b w inn (sizeX b 62 0 5) j) (sizeX b 60 0 40) (cvT b w inn (sizeX b 62 0 5) j).length)).length}) (And.intro ?_ (SubP.sub (σ := [(107, some 107), (113, some 113)]) ⟨⟨rfl, rfl, rfl⟩, ⟨rfl, rfl, (wk_dat ?_), (wk_dat ?_), trivial⟩, ⟨⟨⟨rfl, rfl⟩, ?_⟩, ⟨⟨rfl, rfl⟩, ?_⟩, trivial⟩⟩)))
    | (refine Exists.intro ({i : Nat // i ≤ (bestTo ⟨w, mem, inn, code⟩ (cvT b w inn (sizeX b 62 0 5) j) (sizeX b 60 0 40) (2 ^ (cvT b w inn (sizeX b 62 0 5) j).length)).1.length}) (Exists.intro (fun ⟨i, hi⟩ => mkS Try.f7.ntmps [(3, .ptr 3 0), (4, .dat (.i (sizeX b 60 0 40))), (5, .row 105), (7, .row 107), (8, .row 108), (9, .dat (.i ((s : Int) - 1))), (10, .row 110), (65, .row 108), (66, .dat (.i (bestTo ⟨w, mem, inn, code⟩ (cvT b w inn (sizeX b 62 0 5) j) (sizeX b 60 0 40) (2 ^ (cvT b w inn (sizeX b 62 0 5) j).length)).1.length)), (67, .dat (.i i))] [(3, .box [.dat (.i w), .dat (.i mem), .dat (.i inn), .dat (.seq .inss code)]), (105, .row 29 .intss (cvT b w inn (sizeX b 62 0 5) j) false), (107, .row 3 .ints (asc (allTo ⟨w, mem, inn, code⟩ (cvT b w inn (sizeX b 62 0 5) j) (sizeX b 60 0 40) (cvT b w inn (sizeX b 62 0 5) j).length)) false), (108, .row 3 .ints (bestTo ⟨w, mem, inn, code⟩ (cvT b w inn (sizeX b 62 0 5) j) (sizeX b 60 0 40) (2 ^ (cvT b w inn (sizeX b 62 0 5) j).length)).1 false), (110, .row 29 .intss (skipTo (cvT b w inn (sizeX b 62 0 5) j) (bestTo ⟨w, mem, inn, code⟩ (cvT b w inn (sizeX b 62 0 5) j) (sizeX b 60 0 40) (2 ^ (cvT b w inn (sizeX b 62 0 5) j).length)).1 ((s : Int) - 1) i) false)]) (Exists.intro (fun ⟨i, hi⟩ => (bestTo ⟨w, mem, inn, code⟩ (cvT b w inn (sizeX b 62 0 5) j) (sizeX b 60 0 40) (2 ^ (cvT b w inn (sizeX b 62 0 5) j).length)).1.length - i) (Exists.intro ⟨0, Nat.zero_le _⟩ (And.intro (SubP.sub (σ := [(3, some 3), (105, some 105), (107, some 107), (108, some 108), (110, some 64)]) ⟨⟨rfl, rfl, rfl⟩, ⟨⟨rfl, rfl⟩, (wk_dat ?_), rfl, rfl, rfl, (wk_dat ?_), rfl, rfl, (wk_dat ?_), (wk_dat ?_), trivial⟩, ⟨⟨(wkC_dat ?_), (wkC_dat ?_), (wkC_dat ?_), (wkC_dat ?_), trivial⟩, ⟨⟨rfl, rfl⟩, ?_⟩, ⟨⟨rfl, rfl⟩, ?_⟩, ⟨⟨rfl, rfl⟩, ?_⟩, ⟨⟨rfl, rfl⟩, ?_⟩, trivial⟩⟩) (fun ⟨i, hi⟩ => ?_))))); rotate_right; conv => whnf)
    | (refine Exists.intro (⟨i + 1, ?_⟩ : {i : Nat // i ≤ (bestTo ⟨w, mem, inn, code⟩ (cvT b w inn (sizeX b 62 0 5) j) (sizeX b 60 0 40) (2 ^ (cvT b w inn (sizeX b 62 0 5) j).length)).1.length}) (And.intro ?_ (SubP.sub (σ := [(3, some 3), (105, some 105), (107, some 107), (108, some 108), (110, some 102)]) ⟨⟨rfl, rfl, rfl⟩, ⟨⟨rfl, rfl⟩, (wk_dat ?_), rfl, rfl, rfl, (wk_dat ?_), rfl, rfl, (wk_dat ?_), (wk_dat ?_), trivial⟩, ⟨⟨(wkC_dat ?_), (wkC_dat ?_), (wkC_dat ?_), (wkC_dat ?_), trivial⟩, ⟨⟨rfl, rfl⟩, ?_⟩, ⟨⟨rfl, rfl⟩, ?_⟩, ⟨⟨rfl, rfl⟩, ?_⟩, ⟨⟨rfl, rfl⟩, ?_⟩, trivial⟩⟩)))
    | (refine Exists.intro (⟨i + 1, ?_⟩ : {i : Nat // i ≤ (bestTo ⟨w, mem, inn, code⟩ (cvT b w inn (sizeX b 62 0 5) j) (sizeX b 60 0 40) (2 ^ (cvT b w inn (sizeX b 62 0 5) j).length)).1.length}) (And.intro ?_ (SubP.sub (σ := [(3, some 3), (105, some 105), (107, some 107), (108, some 108), (110, some 110)]) ⟨⟨rfl, rfl, rfl⟩, ⟨⟨rfl, rfl⟩, (wk_dat ?_), rfl, rfl, rfl, (wk_dat ?_), rfl, rfl, (wk_dat ?_), (wk_dat ?_), trivial⟩, ⟨⟨(wkC_dat ?_), (wkC_dat ?_), (wkC_dat ?_), (wkC_dat ?_), trivial⟩, ⟨⟨rfl, rfl⟩, ?_⟩, ⟨⟨rfl, rfl⟩, ?_⟩, ⟨⟨rfl, rfl⟩, ?_⟩, ⟨⟨rfl, rfl⟩, ?_⟩, trivial⟩⟩)))
    | (refine Exists.intro ({s : Nat // s ≤ (bestTo ⟨w, mem, inn, code⟩ (cvT b w inn (sizeX b 62 0 5) j) (sizeX b 60 0 40) (2 ^ (cvT b w inn (sizeX b 62 0 5) j).length)).1.length + 1}) (Exists.intro (fun ⟨s, hs⟩ => mkS Try.f7.ntmps [(3, .ptr 3 0), (4, .dat (.i (sizeX b 60 0 40))), (5, .row 105), (7, .row 107), (8, .row 108), (9, .dat (.i ((s : Int) - 1)))] [(3, .box [.dat (.i w), .dat (.i mem), .dat (.i inn), .dat (.seq .inss code)]), (105, .row 29 .intss (cvT b w inn (sizeX b 62 0 5) j) false), (107, .row 3 .ints (asc (allTo ⟨w, mem, inn, code⟩ (cvT b w inn (sizeX b 62 0 5) j) (sizeX b 60 0 40) (cvT b w inn (sizeX b 62 0 5) j).length)) false), (108, .row 3 .ints (bestTo ⟨w, mem, inn, code⟩ (cvT b w inn (sizeX b 62 0 5) j) (sizeX b 60 0 40) (2 ^ (cvT b w inn (sizeX b 62 0 5) j).length)).1 false)]) (Exists.intro (fun ⟨s, hs⟩ => (bestTo ⟨w, mem, inn, code⟩ (cvT b w inn (sizeX b 62 0 5) j) (sizeX b 60 0 40) (2 ^ (cvT b w inn (sizeX b 62 0 5) j).length)).1.length + 1 - s) (Exists.intro ⟨0, Nat.zero_le _⟩ (And.intro (SubP.sub (σ := [(3, some 3), (105, some 105), (107, some 46000), (108, some 58000)]) ⟨⟨rfl, rfl, rfl⟩, ⟨⟨rfl, rfl⟩, (wk_dat ?_), rfl, rfl, rfl, (wk_dat ?_), trivial⟩, ⟨⟨(wkC_dat ?_), (wkC_dat ?_), (wkC_dat ?_), (wkC_dat ?_), trivial⟩, ⟨⟨rfl, rfl⟩, ?_⟩, ⟨⟨rfl, rfl⟩, ?_⟩, ⟨⟨rfl, rfl⟩, ?_⟩, trivial⟩⟩) (fun ⟨s, hs⟩ => ?_))))); rotate_right; conv => whnf)
    | (refine Exists.intro (⟨s + 1, ?_⟩ : {s : Nat // s ≤ (bestTo ⟨w, mem, inn, code⟩ (cvT b w inn (sizeX b 62 0 5) j) (sizeX b 60 0 40) (2 ^ (cvT b w inn (sizeX b 62 0 5) j).length)).1.length + 1}) (And.intro ?_ (SubP.sub (σ := [(3, some 3), (105, some 105), (107, some 107), (108, some 108)]) ⟨⟨rfl, rfl, rfl⟩, ⟨⟨rfl, rfl⟩, (wk_dat ?_), rfl, rfl, rfl, (wk_dat ?_), trivial⟩, ⟨⟨(wkC_dat ?_), (wkC_dat ?_), (wkC_dat ?_), (wkC_dat ?_), trivial⟩, ⟨⟨rfl, rfl⟩, ?_⟩, ⟨⟨rfl, rfl⟩, ?_⟩, ⟨⟨rfl, rfl⟩, ?_⟩, trivial⟩⟩)))
    | (refine Exists.intro ({j : Nat // (j : Int) ≤ sizeX b 62 0 5}) (Exists.intro (fun ⟨j, hj⟩ => mkS Try.f7.ntmps [(0, .dat (.seq .bytes b)), (3, .ptr 3 0), (4, .dat (.i (sizeX b 60 0 40))), (5, .row 105), (6, .dat (.i (sizeX b 62 0 5 - j)))] [(3, .box [.dat (.i w), .dat (.i mem), .dat (.i inn), .dat (.seq .inss code)]), (105, .row 29 .intss (cvT b w inn (sizeX b 62 0 5) j) false)]) (Exists.intro (fun ⟨j, hj⟩ => (sizeX b 62 0 5).toNat - j) (Exists.intro ⟨0, (sizeX_r b 62 (by decide)).1⟩ (And.intro (SubP.sub (σ := [(3, some 3), (105, some 26)]) ⟨⟨rfl, rfl, rfl⟩, ⟨(wk_dat ?_), ⟨rfl, rfl⟩, (wk_dat ?_), rfl, (wk_dat ?_), trivial⟩, ⟨⟨(wkC_dat ?_), (wkC_dat ?_), (wkC_dat ?_), (wkC_dat ?_), trivial⟩, ⟨⟨rfl, rfl⟩, ?_⟩, trivial⟩⟩) (fun ⟨j, hj⟩ => ?_))))); rotate_right; conv => whnf)
    | (refine Exists.intro (⟨j + 1, ?_⟩ : {j : Nat // (j : Int) ≤ sizeX b 62 0 5}) (And.intro ?_ (SubP.sub (σ := [(3, some 3), (105, some 41)]) ⟨⟨rfl, rfl, rfl⟩, ⟨(wk_dat ?_), ⟨rfl, rfl⟩, (wk_dat ?_), rfl, (wk_dat ?_), trivial⟩, ⟨⟨(wkC_dat ?_), (wkC_dat ?_), (wkC_dat ?_), (wkC_dat ?_), trivial⟩, ⟨⟨rfl, rfl⟩, ?_⟩, trivial⟩⟩)))
    | ((with_reducible refine fcI (g := 9) ?_); refine ⟨_, _, c_GiveProgram (hn := ?_) (hl := by with_reducible assumption) .., rfl, fun res B hRB => ?_⟩; rotate_right; obtain ⟨⟨w, mem, inn, code, rfl, hp⟩, rfl⟩ := hRB; conv => whnf)
    | ((with_reducible refine pcI (g := 13) ?_); refine ⟨_, c_GiveSize (hn := ?_) (h1 := ?_) (h2 := ?_) (h3 := ?_) (hl := ?_) .., rfl, ?_⟩; rotate_right; conv => whnf)
    | ((with_reducible show Exists _); refine Exists.intro _ (And.intro (c_GiveSize (hn := ?_) (h1 := ?_) (h2 := ?_) (h3 := ?_) (hl := ?_) ..) (And.intro rfl ?_)); rotate_right; conv => whnf)
    | ((with_reducible refine pcI (g := 12) ?_); refine ⟨_, v_GiveInputs (hn := ?_) (hl := by assumption) (h1 := ?_) .., rfl, ?_⟩; rotate_right; conv => whnf)
    | ((with_reducible show Exists _); refine Exists.intro _ (And.intro (v_GiveInputs (hn := ?_) (hl := by assumption) (h1 := ?_) ..) (And.intro rfl ?_)); rotate_right; conv => whnf)
    | ((with_reducible refine fcI (g := 41) ?_); refine ⟨_, _, i_CalOk (h3 := by assumption) (hf := by assumption) (hl := ?_) .., rfl, fun res B hRB => ?_⟩; rotate_right; obtain ⟨rfl, rfl⟩ := hRB; conv => whnf)
    | ((with_reducible show Exists _); refine Exists.intro _ (And.intro (i_Cal0 (hx := by assumption) ..) (And.intro rfl ?_)); rotate_right; conv => whnf)
    | ((with_reducible refine fcI (g := 41) ?_); refine ⟨_, _, i_CalR (hx := by assumption) (hl := ?_) .., rfl, fun res B hRB => ?_⟩; rotate_right; obtain ⟨rfl, rfl⟩ := hRB; conv => whnf)
    | ((with_reducible refine pcI (g := 41) ?_); refine ⟨_, i_CalN (hx := by assumption) .., rfl, ?_⟩; rotate_right; conv => whnf)
    | ((with_reducible show Exists _); refine Exists.intro _ (And.intro (i_CalN (hx := by assumption) ..) (And.intro rfl ?_)); rotate_right; conv => whnf)
    | ((with_reducible refine fcI (g := 41) ?_); refine ⟨_, _, i_CalOk (h3 := ?_) (hf := ?_) (hl := ?_) .., rfl, fun res B hRB => ?_⟩; rotate_right; obtain ⟨rfl, rfl⟩ := hRB; conv => whnf)
    | ((with_reducible refine fcI (g := 38) ?_); refine ⟨_, _, s_CalOk (h3 := by assumption) (hf := by assumption) (hl := ?_) .., rfl, fun res B hRB => ?_⟩; rotate_right; obtain ⟨rfl, rfl⟩ := hRB; conv => whnf)
    | ((with_reducible show Exists _); refine Exists.intro _ (And.intro (s_Cal0 (hx := by assumption) ..) (And.intro rfl ?_)); rotate_right; conv => whnf)
    | ((with_reducible refine fcI (g := 38) ?_); refine ⟨_, _, s_CalR (hx := by assumption) (hl := ?_) .., rfl, fun res B hRB => ?_⟩; rotate_right; obtain ⟨rfl, rfl⟩ := hRB; conv => whnf)
    | ((with_reducible refine pcI (g := 38) ?_); refine ⟨_, s_CalN (hx := by assumption) .., rfl, ?_⟩; rotate_right; conv => whnf)
    | ((with_reducible show Exists _); refine Exists.intro _ (And.intro (s_CalN (hx := by assumption) ..) (And.intro rfl ?_)); rotate_right; conv => whnf)
    | ((with_reducible refine fcI (g := 38) ?_); refine ⟨_, _, s_CalOk (h3 := ?_) (hf := ?_) (hl := ?_) .., rfl, fun res B hRB => ?_⟩; rotate_right; obtain ⟨rfl, rfl⟩ := hRB; conv => whnf)
    | ((with_reducible refine fcI (g := 49) ?_); refine ⟨_, _, i_SuiOk (h10 := ?_) (h3 := by assumption) (hf := by assumption) .., rfl, fun res B hRB => ?_⟩; rotate_right; obtain ⟨rfl, rfl⟩ := hRB; conv => whnf)
    | ((with_reducible show Exists _); refine Exists.intro _ (And.intro (i_Sui0 (hx := by assumption) ..) (And.intro rfl ?_)); rotate_right; conv => whnf)
    | ((with_reducible refine fcI (g := 49) ?_); refine ⟨_, _, i_SuiR (hx := by assumption) .., rfl, fun res B hRB => ?_⟩; rotate_right; obtain ⟨rfl, rfl⟩ := hRB; conv => whnf)
    | ((with_reducible refine pcI (g := 49) ?_); refine ⟨_, i_SuiN (hx := by assumption) .., rfl, ?_⟩; rotate_right; conv => whnf)
    | ((with_reducible show Exists _); refine Exists.intro _ (And.intro (i_SuiN (hx := by assumption) ..) (And.intro rfl ?_)); rotate_right; conv => whnf)
    | ((with_reducible refine fcI (g := 49) ?_); refine ⟨_, _, i_SuiOk (h10 := ?_) (h3 := ?_) (hf := ?_) .., rfl, fun res B hRB => ?_⟩; rotate_right; obtain ⟨rfl, rfl⟩ := hRB; conv => whnf)
    | ((with_reducible refine pcI (g := 50) ?_); refine ⟨_, l_ints .., rfl, ?_⟩; rotate_right; conv => whnf)
    | ((with_reducible show Exists _); refine Exists.intro _ (And.intro (l_ints ..) (And.intro rfl ?_)); rotate_right; conv => whnf)
    | ((with_reducible refine fcI (g := 51) ?_); refine ⟨_, _, i_BranchesOf (hp := by assumption) (hl := ?_) .., rfl, fun res B hRB => ?_⟩; rotate_right; obtain ⟨rfl, rfl⟩ := hRB; conv => whnf)
    | ((with_reducible show Exists _); refine Exists.intro _ (And.intro (i_BranchesOf0 (hp := by assumption) ..) (And.intro rfl ?_)); rotate_right; conv => whnf)
    | ((with_reducible show awpOps _ _ _ _ _ _); conv => whnf)
    | (intro h; conv => whnf))
  all_goals (repeat (clear hK; clear K1))
  all_goals first
    | (with_reducible assumption)
    | omega
    | (with_reducible exact cvT_ok b _ hp j)
    | (with_reducible exact fu60 b)
    | (with_reducible exact cvT_10 hj)
    | (with_reducible exact skip_ok (cvT_10 hj) (cvT_ok b _ hp j) (by with_reducible assumption))
    | (with_reducible exact (L_no1 (cvT_10 hj) (by with_reducible assumption) (by with_reducible assumption)).elim)
    | (with_reducible exact (L_no2 (cvT_10 hj) (by with_reducible assumption) (by with_reducible assumption)).elim)
    | (with_reducible exact (L_no3 (cvT_10 hj) (by with_reducible assumption) (by with_reducible assumption) (by with_reducible assumption)).elim)
    | (with_reducible exact (cov_chk (cvT_10 hj) hi (by with_reducible assumption) (by with_reducible assumption) (by with_reducible assumption)).elim)
    | (with_reducible exact (br_at (cvT_ok b _ hp j) (by with_reducible assumption) (by with_reducible assumption) (by with_reducible assumption)).elim)
    | (with_reducible exact (idx_lo (by with_reducible assumption) (cvT_10 hj) (by with_reducible assumption)).1)
    | (with_reducible exact (idx_lo (by with_reducible assumption) (cvT_10 hj) (by with_reducible assumption)).2)
    | (with_reducible exact (L_at (cvT_10 hj) (by with_reducible assumption)).1)
    | (with_reducible exact (L_at (cvT_10 hj) (by with_reducible assumption)).2)
    | (with_reducible exact sig_fin (cvT_step hj))
    | (with_reducible exact sig_fin (skip_y (by with_reducible assumption)))
    | (with_reducible exact sig_fin (skip_n (by with_reducible assumption)))
    | (with_reducible exact skip_w (by with_reducible assumption) (cvT_10 hj))
    | (with_reducible exact fv_y (by with_reducible assumption))
    | (with_reducible exact fv_n (by with_reducible assumption) (by with_reducible assumption))
    | (with_reducible exact fv_0 _ _)
    | (with_reducible exact congrArg (Dat.int .i64) (wrap_succ (by with_reducible assumption) (by with_reducible assumption)).symm)
    | (dsimp only; omega)
    | (dsimp only; have q := szN62 b; omega)
    | ((with_reducible show Dat.i _ = Dat.int .i64 0); exact rfl)
    | ((with_reducible show Dat.i (_ - 1) = Dat.int .i64 (-1)); exact rfl)
    | (with_reducible exact fv_y2 (by with_reducible assumption))
    | (with_reducible exact fv_n2 (by with_reducible assumption) (by with_reducible assumption))
    | (with_reducible exact sig_fin (skip_0 _ _ _))
    | (with_reducible exact sig_fin (cvT_00 _ _ _ _))
    | (with_reducible exact congrArg (Dat.int .i64) (sub_00 _))
    | ((with_reducible show (_ + _) * _ ≤ 140737488355328); refine cap24 ?_; show _ + 1 ≤ 1000000; first | (have q := skip_10 (p := ⟨w, mem, inn, code⟩) (fuel := sizeX b 60 0 40) (s := s) (cvT_10 (w := w) (inn := inn) hj) hi; omega) | (have q := szN62 b; have q2 := cvT_len b w inn (sizeX b 62 0 5) j; omega))
    | ((with_reducible show _ + _ ≤ maxLen); refine capX ?_; show _ + 1 ≤ 1000000; first | (have q := skip_10 (p := ⟨w, mem, inn, code⟩) (fuel := sizeX b 60 0 40) (s := s) (cvT_10 (w := w) (inn := inn) hj) hi; omega) | (have q := szN62 b; have q2 := cvT_len b w inn (sizeX b 62 0 5) j; omega))
    | ((with_reducible show List.length _ ≤ 1048576); first | (have q := prog_c hp; omega) | (have q := cvT_10 (w := w) (inn := inn) hj; omega) | (have q := skip_10 (p := ⟨w, mem, inn, code⟩) (fuel := sizeX b 60 0 40) (s := s) (cvT_10 (w := w) (inn := inn) hj) hi; omega))
    | ((with_reducible show Int.toNat _ < List.length _); have q := idx_lo (by with_reducible assumption) (cvT_10 hj) (by with_reducible assumption); omega)
    | ((with_reducible show inn ≤ _); have q := (prog_in hp); simp only at q; omega)
    | ((with_reducible show 0 ≤ IntKind.i64.wrap (70 + _)); rw [cvN (szN62 b).1 (szN62 b).2 hj]; have q := szN62 b; omega)
    | ((with_reducible show Dat.i (_ - _) = _); have q := szN62 b; rw [wrap_id (by omega) (by omega)]; exact congrArg Dat.i (by omega))
    | decide
    | exact cvT_ok b _ hp j
    | exact fu60 b
    | exact cvT_10 hj
    | (have q := cvT_10 (w := w) (inn := inn) hj; omega)
    | exact skip_ok (cvT_10 hj) (cvT_ok b _ hp j) (by with_reducible assumption)
    | exact Nat.le_trans (skip_10 (cvT_10 hj) (by with_reducible assumption)) (by decide)
    | exact (L_no1 (cvT_10 hj) (by with_reducible assumption) (by with_reducible assumption)).elim
    | exact (L_no2 (cvT_10 hj) (by with_reducible assumption) (by with_reducible assumption)).elim
    | exact (L_no3 (cvT_10 hj) (by with_reducible assumption) (by with_reducible assumption) (by with_reducible assumption)).elim
    | exact (cov_chk (cvT_10 hj) hi (by with_reducible assumption) (by with_reducible assumption) (by with_reducible assumption)).elim
    | exact (br_at (cvT_ok b _ hp j) (by with_reducible assumption) (by with_reducible assumption) (by with_reducible assumption)).elim
    | exact (idx_lo (by with_reducible assumption) (cvT_10 hj) (by with_reducible assumption)).1
    | exact (idx_lo (by with_reducible assumption) (cvT_10 hj) (by with_reducible assumption)).2
    | exact (L_at (cvT_10 hj) (by with_reducible assumption)).1
    | exact (L_at (cvT_10 hj) (by with_reducible assumption)).2
    | exact sig_fin (cvT_step hj)
    | exact sig_fin (skip_y (by with_reducible assumption))
    | exact sig_fin (skip_n (by with_reducible assumption))
    | exact skip_w (by with_reducible assumption) (cvT_10 hj)
    | exact fv_y (by with_reducible assumption)
    | exact fv_n (by with_reducible assumption) (by with_reducible assumption)
    | exact fv_0 _ _
    | (rw [cvN (szN62 b).1 (szN62 b).2 hj]; have q := szN62 b; omega)
    | (have q := prog_in hp; simp only at q; omega)
    | (have q := prog_c hp; omega)
    | exact absurd rfl (show ¬ _ from (by with_reducible assumption))
    | exact congrArg (Dat.int .i64) (by omega : sizeX b 62 0 5 - ((0 : Nat) : Int) = sizeX b 62 0 5)
    | exact congrArg (Dat.int .i64) (wrap_succ (by with_reducible assumption) (by with_reducible assumption)).symm
    | (have q := szN62 b; rw [wrap_id (by omega) (by omega)]; exact congrArg Dat.i (by omega))
    | (have q := szN62 b; exact congrArg (Dat.int .i64) (by rw [wrap_id (by omega) (by omega)]; omega))
    | (have q := szN62 b; have q2 := cvT_len b w inn (sizeX b 62 0 5) j; have hm2 : maxLen = 9223372036854775807 := rfl; show (cvT b w inn (sizeX b 62 0 5) j).length + 1 ≤ maxLen; omega)
    | (have q := szN62 b; have q2 := cvT_len b w inn (sizeX b 62 0 5) j; show ((cvT b w inn (sizeX b 62 0 5) j).length + 1) * 24 ≤ 140737488355328; omega)
    | (have q := skip_len _ _ ((s : Int) - 1) i; have q3 := cvT_10 (w := w) (inn := inn) hj; have q4 := best_len ⟨w, mem, inn, code⟩ (cvT b w inn (sizeX b 62 0 5) j) (sizeX b 60 0 40) (2 ^ (cvT b w inn (sizeX b 62 0 5) j).length); have hm2 : maxLen = 9223372036854775807 := rfl; show (skipTo _ _ _ i).length + 1 ≤ maxLen; omega)
    | (have q := skip_10 (p := ⟨w, mem, inn, code⟩) (fuel := sizeX b 60 0 40) (s := s) (cvT_10 (w := w) (inn := inn) hj) hi; show (_ + 1) * 24 ≤ 140737488355328; omega)
    | (have q := skip_10 (p := ⟨w, mem, inn, code⟩) (fuel := sizeX b 60 0 40) (s := s) (cvT_10 (w := w) (inn := inn) hj) hi; have hm2 : maxLen = 9223372036854775807 := rfl; show _ + 1 ≤ maxLen; omega)
    | omega
    | (dsimp only; omega)
    | rfl
    | skip
end Vg

