/- Sessions: contracts of the functions that look at them, and of the law FnExactSessionOk. Condition: lists are no longer than the law lets through. -/
import Derived.Test.YtahdmongckgjcaaGreatDoorBase
namespace Vg
open Go Go.Proofs

def totSS {α : Type} (a : List (List α)) : Nat := a.length + (a.map List.length).sum
theorem sum_step {α : Type} {a : List (List α)} {k : Nat} (h : (k : Int) < a.length) : ((a.take (k + 1)).map List.length).sum = ((a.take k).map List.length).sum + (a.getD k []).length := by
  have h' : k < a.length := by omega
  rw [List.take_succ_eq_append_getElem h']
  simp only [List.map_append, List.sum_append, List.map_cons, List.map_nil, List.sum_cons, List.sum_nil, List.getD_eq_getElem?_getD, List.getElem?_eq_getElem h', Option.getD_some, Nat.add_zero]
theorem sum_le {α : Type} {a : List (List α)} (k : Nat) : ((a.take k).map List.length).sum ≤ (a.map List.length).sum := by
  induction a generalizing k with
  | nil => simp
  | cons x a ih =>
    cases k with
    | zero => simp
    | succ k =>
      simp only [List.take_succ_cons, List.map_cons, List.sum_cons]
      have := ih k
      omega
theorem len_le {α : Type} {a : List (List α)} {k : Nat} (h : (k : Int) < a.length) : (a.getD k []).length ≤ (a.map List.length).sum := by
  have h' : k < a.length := by omega
  have h1 := sum_step h
  have h2 := sum_le (a := a) (k + 1)
  omega

set_option maxHeartbeats 2000000 in
set_option maxRecDepth 100000 in
theorem l_eqIntS (a b : List (K.T .ints)) : CallsV Tryz.prog 34 [.dat (.seq .ints a), .dat (.seq .ints b)] (.dat (.bool (decide (a = b)))) := by
  refine CallsV.of_awp tauOk mixOk Tryz.func34 rfl rfl rfl ?_
  conv => whnf
  repeat' (first
    | ((with_reducible refine Alt.l ?_); conv => whnf)
    | ((with_reducible refine fun (K1 : AX → AState → Prop) hK => ?_); conv => whnf)
    | ((with_reducible show K1 _ _); subst hK; conv => whnf)
    | (with_reducible exact rfl)
    | ((with_reducible refine sp_d (fun h => ?_) (fun h => ?_)) <;> first | contradiction | (subst h; conv => whnf) | (conv => whnf))
    | ((with_reducible refine sp_n (fun h => ?_) (fun h => ?_)) <;> first | contradiction | (subst h; conv => whnf) | (conv => whnf))
    | (refine ⟨(rfl : nodupB _ = true), rfl, ?_⟩; conv => whnf)
    | (with_reducible refine bnd2 ?_ ?_)
    | ((with_reducible refine and_of ?_ ?_); conv => whnf)
    | (refine Exists.intro ({k : Nat // a.take k = b.take k}) (Exists.intro (fun ⟨k, hk⟩ => mkS Tryz.f34.ntmps [(0, .dat (.seq .ints a)), (1, .dat (.seq .ints b)), (5, .dat (.i k))] []) (Exists.intro (fun ⟨k, hk⟩ => a.length - k) (Exists.intro ⟨0, rfl⟩ (And.intro (SubP.sub (σ := []) ⟨⟨rfl, rfl, rfl⟩, ⟨(wk_dat ?_), (wk_dat ?_), (wk_dat ?_), trivial⟩, trivial⟩) (fun ⟨k, hk⟩ => ?_))))); rotate_right; conv => whnf)
    | (refine Exists.intro ⟨k + 1, ?_⟩ (And.intro ?_ (SubP.sub (σ := []) ⟨⟨rfl, rfl, rfl⟩, ⟨(wk_dat ?_), (wk_dat ?_), (wk_dat ?_), trivial⟩, trivial⟩)))
    | ((with_reducible show awpOps _ _ _ _ _ _); conv => whnf)
    | (intro h; conv => whnf))
  all_goals (repeat (clear hK; clear K1))
  all_goals first
    | rfl
    | assumption
    | exact Bool.noConfusion (h.symm.trans hp)
    | omega
    | (dsimp only; omega)
    | exact congrArg (Dat.int .i64) (wrap_succ (by assumption) (by assumption)).symm
    | exact congrArg Dat.bool (decide_eq_false (fun e => h (by rw [e])))
    | exact take_eq_step (K.dflt .ints) (by assumption) (by omega) hk (of_decide_eq_true h)
    | exact take_eq_step (K.dflt .ints) (by assumption) (by omega) hk h
    | exact congrArg Dat.bool (decide_eq_true (take_eq_end (by assumption) (by omega) hk))
end Vg
