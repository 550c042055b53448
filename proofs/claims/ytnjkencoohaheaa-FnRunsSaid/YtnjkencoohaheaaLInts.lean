/- Lists of numbers are compared, and looked through: contracts. No condition. -/
import Derived.Test.YtnjkencoohaheaaRuns
namespace Vg
open Go Go.Proofs
theorem getD_atI {l : List Int} {k : Nat} (h : k < l.length) : l.getD k K.ints.dflt = l[k] := by
  rw [List.getD_eq_getElem?_getD, List.getElem?_eq_getElem h, Option.getD_some]
theorem take_eq_at {a b : List Int} {k : Nat} (hk : a.take k = b.take k) (ha : (k : Int) < a.length) (hb : (k : Int) < b.length) (he : b.getD (k : Int).toNat K.ints.dflt = a.getD (k : Int).toNat K.ints.dflt) : a.take (k + 1) = b.take (k + 1) := by
  have h1 : k < a.length := by omega
  have h2 : k < b.length := by omega
  rw [Int.toNat_natCast, getD_atI h1, getD_atI h2] at he
  rw [List.take_succ_eq_append_getElem h1, List.take_succ_eq_append_getElem h2, hk, he]
theorem ints_end {a b : List Int} {k : Nat} (hb : k ≤ b.length) (hk : a.take k = b.take k) (ha : ¬ (k : Int) < a.length) : Dat.bool ((a.length : Int) == b.length) = Dat.bool (decide (a = b)) := by
  refine congrArg Dat.bool ?_
  rw [Bool.eq_iff_iff, beq_iff_eq, decide_eq_true_iff]
  constructor
  · intro h
    rw [List.take_of_length_le (by omega), List.take_of_length_le (by omega)] at hk
    exact hk
  · intro h; rw [h]
structure IntsI (a b : List Int) (k : Nat) : Prop where
  le : k ≤ b.length
  eq : a.take k = b.take k
theorem ints_s {a b : List Int} {k : Nat} (hk : IntsI a b k) (ha : (k : Int) < a.length) (hb : ¬ (k : Int) ≥ b.length) (he : b.getD (k : Int).toNat K.ints.dflt = a.getD (k : Int).toNat K.ints.dflt) : IntsI a b (k + 1) :=
  ⟨by omega, take_eq_at hk.eq ha (by omega) he⟩
theorem ints_s' {a b : List Int} {k : Nat} (hk : IntsI a b k) (ha : (k : Int) < a.length) (hb : (k : Int) < b.length) (he : b.getD (k : Int).toNat K.ints.dflt = a.getD (k : Int).toNat K.ints.dflt) : IntsI a b (k + 1) :=
  ⟨by omega, take_eq_at hk.eq ha hb he⟩
set_option maxHeartbeats 2000000 in
set_option maxRecDepth 100000 in
theorem l_ints (a b : List Int) : CallsV Try.prog 50 [.dat (.seq .ints a), .dat (.seq .ints b)] (.dat (.bool (decide (a = b)))) := by
  refine CallsV.of_awp tauOk mixOk Try.func50 rfl rfl rfl ?_
  conv => whnf
  repeat' (first
    | ((with_reducible refine Alt.l ?_); conv => whnf)
    | ((with_reducible refine fun (K1 : AX → AState → Prop) hK => ?_); conv => whnf)
    | ((with_reducible show K1 _ _); subst hK; conv => whnf)
    | (with_reducible exact rfl)
    | ((with_reducible refine sp_T ?_); conv => whnf)
    | ((with_reducible refine sp_F ?_); conv => whnf)
    | ((with_reducible refine sp_T' ?_); conv => whnf)
    | ((with_reducible refine sp_F' ?_); conv => whnf)
    | ((with_reducible refine sp_dF ?_ ?_); decide; conv => whnf)
    | ((with_reducible refine sp_dT ?_ ?_); decide; conv => whnf)
    | ((with_reducible refine sp_d (fun h => ?_) (fun h => ?_)) <;> first | contradiction | (subst h; conv => whnf) | (conv => whnf))
    | ((with_reducible refine sp_d' (fun h => ?_) (fun h => ?_)) <;> first | contradiction | (subst h; conv => whnf) | (conv => whnf))
    | ((with_reducible refine sp_eF ?_ ?_); decide; conv => whnf)
    | ((with_reducible refine sp_eT ?_); conv => whnf)
    | ((with_reducible refine sp_e (fun h => ?_) (fun h => ?_)) <;> first | contradiction | (subst h; conv => whnf) | (conv => whnf))
    | ((with_reducible refine sp_e' (fun h => ?_) (fun h => ?_)) <;> first | contradiction | (subst h; conv => whnf) | (conv => whnf))
    | ((with_reducible refine sp_n (fun h => ?_) (fun h => ?_)) <;> first | contradiction | (subst h; conv => whnf) | (conv => whnf))
    | ((with_reducible refine sp_n' (fun h => ?_) (fun h => ?_)) <;> first | contradiction | (subst h; conv => whnf) | (conv => whnf))
    | ((with_reducible refine sp_nb (fun h => ?_) (fun h => ?_)) <;> first | (exact Bool.noConfusion (Eq.trans (Eq.symm h) (show _ = true by with_reducible assumption))) | (exact Bool.noConfusion (Eq.trans (Eq.symm (show _ = false by with_reducible assumption)) h)) | (conv => whnf))
    | ((with_reducible refine sp_nb' (fun h => ?_) (fun h => ?_)) <;> first | (exact Bool.noConfusion (Eq.trans (Eq.symm h) (show _ = true by with_reducible assumption))) | (exact Bool.noConfusion (Eq.trans (Eq.symm (show _ = false by with_reducible assumption)) h)) | (conv => whnf))
    | ((with_reducible refine sp_b (fun h => ?_) (fun h => ?_)) <;> first | (exact Bool.noConfusion (Eq.trans (Eq.symm h) (show _ = true by with_reducible assumption))) | (exact Bool.noConfusion (Eq.trans (Eq.symm (show _ = false by with_reducible assumption)) h)) | (conv => whnf))
    | ((with_reducible refine sp_b' (fun h => ?_) (fun h => ?_)) <;> first | (exact Bool.noConfusion (Eq.trans (Eq.symm h) (show _ = true by with_reducible assumption))) | (exact Bool.noConfusion (Eq.trans (Eq.symm (show _ = false by with_reducible assumption)) h)) | (conv => whnf))
    | (refine ⟨(rfl : nodupB _ = true), rfl, ?_⟩; conv => whnf)
    | (with_reducible refine bnd2 ?_ ?_)
    | (with_reducible refine bnd2' ?_ ?_)
    | (with_reducible refine bndN ?_ ?_)
    | ((with_reducible refine and_of ?_ ?_); conv => whnf)
    | (refine Exists.intro ({k : Nat // IntsI a b k}) (Exists.intro (fun ⟨k, hk⟩ => mkS Try.f50.ntmps [(0, .dat (.seq .ints a)), (1, .dat (.seq .ints b)), (7, .dat (.seq .ints a)), (8, .dat (.i a.length)), (9, .dat (.i k))] []) (Exists.intro (fun ⟨k, hk⟩ => a.length - k) (Exists.intro ⟨0, ⟨Nat.zero_le _, rfl⟩⟩ (And.intro (SubP.sub (σ := []) ⟨⟨rfl, rfl, rfl⟩, ⟨(wk_dat ?_), (wk_dat ?_), (wk_dat ?_), (wk_dat ?_), (wk_dat ?_), trivial⟩, trivial⟩) (fun ⟨k, hk⟩ => ?_))))); rotate_right; conv => whnf)
    | (refine Exists.intro (⟨k + 1, ?_⟩ : {k : Nat // IntsI a b k}) (And.intro ?_ (SubP.sub (σ := []) ⟨⟨rfl, rfl, rfl⟩, ⟨(wk_dat ?_), (wk_dat ?_), (wk_dat ?_), (wk_dat ?_), (wk_dat ?_), trivial⟩, trivial⟩)))
    | ((with_reducible show awpOps _ _ _ _ _ _); conv => whnf)
    | (intro h; conv => whnf))
  all_goals (repeat (clear hK; clear K1))
  all_goals first
    | (with_reducible assumption)
    | (with_reducible rfl)
    | exact congrArg Dat.bool (decide_eq_false (fun e => by subst e; omega))
    | exact (congrArg Dat.bool (decide_eq_false (fun e => by subst e; omega))).symm
    | exact congrArg Dat.bool (decide_eq_false (fun e => by subst e; exact (by assumption : ¬ _) rfl))
    | exact (congrArg Dat.bool (decide_eq_false (fun e => by subst e; exact (by assumption : ¬ _) rfl))).symm
    | exact ints_s hk (by with_reducible assumption) (by with_reducible assumption) (by with_reducible assumption)
    | exact ints_s' hk (by with_reducible assumption) (by with_reducible assumption) (by with_reducible assumption)
    | exact ints_end hk.le hk.eq (by with_reducible assumption)
    | exact (ints_end hk.le hk.eq (by with_reducible assumption)).symm
    | exact congrArg (Dat.int .i64) (wrap_succ (by with_reducible assumption) (by with_reducible assumption)).symm
    | exact (rfl : Dat.i ((0 : Nat) : Int) = Dat.int .i64 0)
    | omega
    | (dsimp only; omega)
    | skip
end Vg
