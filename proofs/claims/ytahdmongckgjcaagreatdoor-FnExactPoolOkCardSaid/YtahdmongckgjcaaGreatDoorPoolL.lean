/- Sessions: contracts of the functions that look at them, and of the law FnExactSessionOk. Condition: lists are no longer than the law lets through. -/
import Derived.Test.YtahdmongckgjcaaGreatDoorBase
namespace Vg
open Go Go.Proofs
set_option maxRecDepth 100000
set_option maxHeartbeats 40000000
def qcx {α : Type} (a : List (List α)) : Nat := a.length + (a.map List.length).sum
theorem qlh {α : Type} {a : List (List α)} {k : Nat} (h : (k : Int) < a.length) : ((a.take (k + 1)).map List.length).sum = ((a.take k).map List.length).sum + (a.getD k []).length := by
  have h' : k < a.length := by omega
  rw [List.take_succ_eq_append_getElem h']
  simp only [List.map_append, List.sum_append, List.map_cons, List.map_nil, List.sum_cons, List.sum_nil, List.getD_eq_getElem?_getD, List.getElem?_eq_getElem h', Option.getD_some, Nat.add_zero]
theorem sum_le {α : Type} {a : List (List α)} (k : Nat) : ((a.take k).map List.length).sum ≤ (a.map List.length).sum := by
  induction a generalizing k with
  | nil => simp
  | cons x a ih =>
    cases k with
    | zero => simp
    | succ k =>
      simp only [List.take_succ_cons, List.map_cons, List.sum_cons]
      have := ih k
      omega
theorem sum_end {α : Type} {a : List (List α)} {k : Nat} (h : ¬ (k : Int) < a.length) : ((a.take k).map List.length).sum = (a.map List.length).sum := by
  rw [List.take_of_length_le (by omega)]
theorem len_le {α : Type} {a : List (List α)} {k : Nat} (h : (k : Int) < a.length) : (a.getD k []).length ≤ (a.map List.length).sum := by
  have h' : k < a.length := by omega
  have h1 := qlh h
  have h2 := sum_le (a := a) (k + 1)
  omega
theorem szSS_no {a : List (List Int)} {left : Int} {k : Nat} (hk : (k : Int) < a.length) (h : (if left - (a.length + ((a.take k).map List.length).sum : Nat) - (a.getD k []).length < 0 then -1 else left - (a.length + ((a.take k).map List.length).sum : Nat) - (a.getD k []).length) < 0) :
    Dat.i (if left - qcx a < 0 then -1 else left - qcx a) = Dat.int .i64 (-1) := by
  have e := qlh hk
  have l := sum_le (a := a) (k + 1)
  refine congrArg Dat.i ?_
  unfold qcx
  split at h <;> split <;> omega
theorem qmq {a : List (List Int)} {left : Int} {k : Nat} (hk : (k : Int) < a.length) (h : ¬ (if left - (a.length + ((a.take k).map List.length).sum : Nat) - (a.getD k []).length < 0 then -1 else left - (a.length + ((a.take k).map List.length).sum : Nat) - (a.getD k []).length) < 0) :
    0 ≤ left - (a.length + ((a.take (k + 1)).map List.length).sum : Nat) ∧ left - (a.length + ((a.take (k + 1)).map List.length).sum : Nat) = (if left - (a.length + ((a.take k).map List.length).sum : Nat) - (a.getD k []).length < 0 then -1 else left - (a.length + ((a.take k).map List.length).sum : Nat) - (a.getD k []).length) := by
  have e := qlh hk
  split at h
  · omega
  · rename_i h'
    rw [if_neg h']; omega
theorem szSS_end {a : List (List Int)} {left : Int} {k : Nat} (h : ¬ (k : Int) < a.length) (hk : 0 ≤ left - (a.length + ((a.take k).map List.length).sum : Nat)) : (if left - qcx a < 0 then -1 else left - qcx a) = left - (a.length + ((a.take k).map List.length).sum : Nat) := by
  have e := sum_end h
  unfold qcx
  rw [← e, if_neg (by omega)]
theorem lf_toIntS (a : List (K.T .ints)) (hl : a.length ≤ 1048576) : CallsF Tryz.prog 32 [.dat (.seq .ints a)] true (fun res B => res = .row 0 ∧ B = [.row 3 .ints a false]) := by
  refine CallsF.of_awp qaf qag Tryz.func32 rfl rfl rfl ?_
  conv => whnf
  repeat' (first | ((with_reducible first | refine fun (K1 : AX → AState → Prop) hK => ?_ | (show K1 _ _; subst hK)); conv => whnf) | (with_reducible exact rfl) | ((with_reducible refine qbe (fun h => ?_) (fun h => ?_)) <;> first | contradiction | (subst h; conv => whnf) | (conv => whnf)) | (refine ⟨(rfl : qac _ = true), rfl, ?_⟩; conv => whnf) | (with_reducible refine qbn ?_ ?_) | (with_reducible refine qdv ?_ ?_) | ((with_reducible refine qad ?_ ?_); conv => whnf) | (refine Exists.intro ({k : Nat // k ≤ a.length}) (Exists.intro (fun ⟨k, hk⟩ => mkS Tryz.f32.ntmps [(0, .dat (.seq .ints a)), (3, .row 7), (4, .dat (.i k))] [(7, .row 3 .ints (a.take k ++ List.replicate (a.length - k) (0 : Int)) false)]) (Exists.intro (fun ⟨k, hk⟩ => a.length - k) (Exists.intro ⟨0, Nat.zero_le _⟩ (And.intro (SubP.sub (σ := [(7, some 7)]) ⟨⟨rfl, rfl, rfl⟩, ⟨(qab ?_), rfl, (qab ?_), trivial⟩, ⟨⟨⟨rfl, rfl⟩, ?_⟩, trivial⟩⟩) (fun ⟨k, hk⟩ => ?_))))); rotate_right; conv => whnf) | (refine Exists.intro ⟨k + 1, ?_⟩ (And.intro ?_ (SubP.sub (σ := [(7, some 7)]) ⟨⟨rfl, rfl, rfl⟩, ⟨(qab ?_), rfl, (qab ?_), trivial⟩, ⟨⟨⟨rfl, rfl⟩, ?_⟩, trivial⟩⟩))) | (intro h; conv => whnf))
  all_goals (repeat (clear hK; clear K1))
  all_goals first | rfl | assumption | omega | (dsimp only; omega) | exact congrArg (Dat.int .i64) (qa1 (by assumption) (by assumption)).symm | exact qli (qlj (K.dflt .ints) (0 : Int) (by assumption)).symm | (simp; omega) | exact qoa (qij h) | (show (_ : Int) * ((8 : Nat) : Int) ≤ _; omega)
theorem l_eqIntS (a b : List (K.T .ints)) : CallsV Tryz.prog 34 [.dat (.seq .ints a), .dat (.seq .ints b)] (.dat (.bool (decide (a = b)))) := by
  refine CallsV.of_awp qaf qag Tryz.func34 rfl rfl rfl ?_
  conv => whnf
  repeat' (first | ((with_reducible first | refine Alt.l ?_ | refine fun (K1 : AX → AState → Prop) hK => ?_ | (show K1 _ _; subst hK)); conv => whnf) | (with_reducible exact rfl) | ((with_reducible first | refine qbe (fun h => ?_) (fun h => ?_) | refine qhh (fun h => ?_) (fun h => ?_)) <;> first | contradiction | (subst h; conv => whnf) | (conv => whnf)) | (refine ⟨(rfl : qac _ = true), rfl, ?_⟩; conv => whnf) | (with_reducible refine qbn ?_ ?_) | ((with_reducible refine qad ?_ ?_); conv => whnf) | (refine Exists.intro ({k : Nat // a.take k = b.take k}) (Exists.intro (fun ⟨k, hk⟩ => mkS Tryz.f34.ntmps [(0, .dat (.seq .ints a)), (1, .dat (.seq .ints b)), (5, .dat (.i k))] []) (Exists.intro (fun ⟨k, hk⟩ => a.length - k) (Exists.intro ⟨0, rfl⟩ (And.intro (SubP.sub (σ := []) ⟨⟨rfl, rfl, rfl⟩, ⟨(qab ?_), (qab ?_), (qab ?_), trivial⟩, trivial⟩) (fun ⟨k, hk⟩ => ?_))))); rotate_right; conv => whnf) | (refine Exists.intro ⟨k + 1, ?_⟩ (And.intro ?_ (SubP.sub (σ := []) ⟨⟨rfl, rfl, rfl⟩, ⟨(qab ?_), (qab ?_), (qab ?_), trivial⟩, trivial⟩))) | (intro h; conv => whnf))
  all_goals (repeat (clear hK; clear K1))
  all_goals first | rfl | assumption | omega | (dsimp only; omega) | exact congrArg (Dat.int .i64) (qa1 (by assumption) (by assumption)).symm | exact congrArg Dat.bool (decide_eq_false (fun e => h (by rw [e]))) | exact qcz (K.dflt .ints) (by assumption) (by omega) hk h | exact congrArg Dat.bool (decide_eq_true (qdg (by assumption) (by omega) hk))
theorem l_szIntS (a : List Int) (left : Int) (h0 : 0 ≤ left) (h1 : left ≤ 1048576) : CallsV Tryz.prog 99 [.dat (.seq .ints a), .dat (.i left)] (.dat (.i (if left - a.length < 0 then -1 else left - a.length))) := by
  refine CallsV.of_awp qaf qag Tryz.func99 rfl rfl rfl ?_
  conv => whnf
  repeat' (first | ((with_reducible first | refine fun (K1 : AX → AState → Prop) hK => ?_ | (show K1 _ _; subst hK)); conv => whnf) | ((with_reducible refine qbe (fun h => ?_) (fun h => ?_)) <;> first | contradiction | (subst h; conv => whnf) | (conv => whnf)) | (refine ⟨(rfl : qac _ = true), rfl, ?_⟩; conv => whnf) | (intro h; conv => whnf))
  all_goals (repeat (clear hK; clear K1))
  all_goals
    have hm : maxLen = 9223372036854775807 := rfl
    rw [qah (by omega) (by omega)] at *
    simp [h]
end Vg

namespace Vg
open Go Go.Proofs
theorem wr {k : Int} (h0 : 0 ≤ k) (h1 : k ≤ 2199023255552) : IntKind.i64.wrap (k + 1) = k + 1 := qah (by omega) (by omega)
theorem mkw1 {k : Int} {i n : Nat} (h0 : 0 ≤ k) (h1 : k ≤ 1099511627776) (hi : i ≤ n) (hn : n ≤ 4194304) : IntKind.i64.wrap (k + 4 * (i : Nat) + 1) = k + 4 * (i : Nat) + 1 := wr (by omega) (by omega)
theorem w2 {k : Int} {i n : Nat} (h0 : 0 ≤ k) (h1 : k ≤ 1099511627776) (hi : i ≤ n) (hn : n ≤ 4194304) : IntKind.i64.wrap (IntKind.i64.wrap (k + 4 * (i : Nat) + 1) + 1) = k + 4 * (i : Nat) + 1 + 1 := by rw [mkw1 h0 h1 hi hn]; exact wr (by omega) (by omega)
theorem w3 {k : Int} {i n : Nat} (h0 : 0 ≤ k) (h1 : k ≤ 1099511627776) (hi : i ≤ n) (hn : n ≤ 4194304) : IntKind.i64.wrap (IntKind.i64.wrap (IntKind.i64.wrap (k + 4 * (i : Nat) + 1) + 1) + 1) = k + 4 * (i : Nat) + 1 + 1 + 1 := by rw [w2 h0 h1 hi hn]; exact wr (by omega) (by omega)
theorem w4 {k : Int} {i n : Nat} (h0 : 0 ≤ k) (h1 : k ≤ 1099511627776) (hi : i ≤ n) (hn : n ≤ 4194304) : IntKind.i64.wrap (IntKind.i64.wrap (IntKind.i64.wrap (IntKind.i64.wrap (k + 4 * (i : Nat) + 1) + 1) + 1) + 1) = k + 4 * ((i + 1 : Nat) : Int) := by rw [w3 h0 h1 hi hn, wr (by omega) (by omega)]; omega
end Vg

namespace Vg
open Go Go.Proofs
set_option maxRecDepth 100000
set_option maxHeartbeats 40000000
theorem l_eqJob (a b : List Int) : CallsV Tryz.prog 77 [.agg [.dat (.seq .ints a)], .agg [.dat (.seq .ints b)]] (.dat (.bool (decide (a = b)))) := by
  refine CallsV.of_awp qaf qag Tryz.func77 rfl rfl rfl ?_
  conv => whnf
  repeat' (first | ((with_reducible first | refine fun (K1 : AX → AState → Prop) hK => ?_ | (show K1 _ _; subst hK)); conv => whnf) | ((with_reducible refine qbt (fun h => ?_) (fun h => ?_)) <;> first | contradiction | (exact Bool.noConfusion (Eq.trans (Eq.symm h) (show _ = true by assumption))) | (exact Bool.noConfusion (Eq.trans (Eq.symm (show _ = false by assumption)) h)) | (conv => whnf)) | (refine ⟨(rfl : qac _ = true), rfl, ?_⟩; conv => whnf) | ((with_reducible refine pcI (g := 34) ?_); refine ⟨_, l_eqIntS .., rfl, ?_⟩; rotate_right; conv => whnf))
  all_goals (repeat (clear hK; clear K1))
  all_goals first | (simp [*]; done) | skip
theorem l_l_eqJobS (a b : List (K.T .intss)) : CallsV Tryz.prog 40 [.dat (.seq .intss a), .dat (.seq .intss b)] (.dat (.bool (decide (a = b)))) := by
  refine CallsV.of_awp qaf qag Tryz.func40 rfl rfl rfl ?_
  conv => whnf
  repeat' (first | ((with_reducible first | refine Alt.l ?_ | refine fun (K1 : AX → AState → Prop) hK => ?_ | (show K1 _ _; subst hK)); conv => whnf) | (with_reducible exact rfl) | ((with_reducible first | refine qbe (fun h => ?_) (fun h => ?_) | refine qhh (fun h => ?_) (fun h => ?_)) <;> first | contradiction | (subst h; conv => whnf) | (conv => whnf)) | ((with_reducible refine qbt (fun h => ?_) (fun h => ?_)) <;> first | contradiction | (exact Bool.noConfusion (Eq.trans (Eq.symm h) (show _ = true by assumption))) | (exact Bool.noConfusion (Eq.trans (Eq.symm (show _ = false by assumption)) h)) | (conv => whnf)) | (refine ⟨(rfl : qac _ = true), rfl, ?_⟩; conv => whnf) | (with_reducible refine qbn ?_ ?_) | ((with_reducible refine qad ?_ ?_); conv => whnf) | (refine Exists.intro ({k : Nat // a.take k = b.take k}) (Exists.intro (fun ⟨k, hk⟩ => mkS Tryz.f40.ntmps [(0, .dat (.seq .intss a)), (1, .dat (.seq .intss b)), (5, .dat (.i k))] []) (Exists.intro (fun ⟨k, hk⟩ => a.length - k) (Exists.intro ⟨0, rfl⟩ (And.intro (SubP.sub (σ := []) ⟨⟨rfl, rfl, rfl⟩, ⟨(qab ?_), (qab ?_), (qab ?_), trivial⟩, trivial⟩) (fun ⟨k, hk⟩ => ?_))))); rotate_right; conv => whnf) | (refine Exists.intro ⟨k + 1, ?_⟩ (And.intro ?_ (SubP.sub (σ := []) ⟨⟨rfl, rfl, rfl⟩, ⟨(qab ?_), (qab ?_), (qab ?_), trivial⟩, trivial⟩))) | ((with_reducible show Exists _); refine Exists.intro _ (And.intro (l_eqJob ..) (And.intro rfl ?_)); rotate_right; conv => whnf) | (intro h; conv => whnf))
  all_goals (repeat (clear hK; clear K1))
  all_goals first | rfl | assumption | omega | (dsimp only; omega) | exact congrArg (Dat.int .i64) (qa1 (by assumption) (by assumption)).symm | exact congrArg Dat.bool (decide_eq_false (fun e => h (by rw [e]))) | exact qcz (K.dflt .intss) (by assumption) (by omega) hk (of_decide_eq_true h) | exact congrArg Dat.bool (decide_eq_false (qhm (of_decide_eq_false h))) | exact congrArg Dat.bool (decide_eq_true (qdg (by assumption) (by omega) hk))
theorem qon (a b : List (K.T .bools)) : CallsV Tryz.prog 41 [.dat (.seq .bools a), .dat (.seq .bools b)] (.dat (.bool (decide (a = b)))) := by
  refine CallsV.of_awp qaf qag Tryz.func41 rfl rfl rfl ?_
  conv => whnf
  repeat' (first | ((with_reducible first | refine Alt.l ?_ | refine fun (K1 : AX → AState → Prop) hK => ?_ | (show K1 _ _; subst hK)); conv => whnf) | (with_reducible exact rfl) | ((with_reducible first | refine qbe (fun h => ?_) (fun h => ?_) | refine qhh (fun h => ?_) (fun h => ?_)) <;> first | contradiction | (subst h; conv => whnf) | (conv => whnf)) | ((with_reducible refine qbt (fun h => ?_) (fun h => ?_)) <;> first | contradiction | (exact Bool.noConfusion (Eq.trans (Eq.symm h) (show _ = true by assumption))) | (exact Bool.noConfusion (Eq.trans (Eq.symm (show _ = false by assumption)) h)) | (conv => whnf)) | (refine ⟨(rfl : qac _ = true), rfl, ?_⟩; conv => whnf) | (with_reducible refine qbn ?_ ?_) | ((with_reducible refine qad ?_ ?_); conv => whnf) | (refine Exists.intro ({k : Nat // a.take k = b.take k}) (Exists.intro (fun ⟨k, hk⟩ => mkS Tryz.f41.ntmps [(0, .dat (.seq .bools a)), (1, .dat (.seq .bools b)), (5, .dat (.i k))] []) (Exists.intro (fun ⟨k, hk⟩ => a.length - k) (Exists.intro ⟨0, rfl⟩ (And.intro (SubP.sub (σ := []) ⟨⟨rfl, rfl, rfl⟩, ⟨(qab ?_), (qab ?_), (qab ?_), trivial⟩, trivial⟩) (fun ⟨k, hk⟩ => ?_))))); rotate_right; conv => whnf) | (refine Exists.intro ⟨k + 1, ?_⟩ (And.intro ?_ (SubP.sub (σ := []) ⟨⟨rfl, rfl, rfl⟩, ⟨(qab ?_), (qab ?_), (qab ?_), trivial⟩, trivial⟩))) | (intro h; conv => whnf))
  all_goals (repeat (clear hK; clear K1))
  all_goals first | rfl | assumption | omega | (dsimp only; omega) | exact congrArg (Dat.int .i64) (qa1 (by assumption) (by assumption)).symm | exact congrArg Dat.bool (decide_eq_false (fun e => h (by rw [e]))) | exact qcz (K.dflt .bools) (by assumption) (by omega) hk (of_decide_eq_true h) | exact congrArg Dat.bool (decide_eq_false (qhm (of_decide_eq_false h))) | exact congrArg Dat.bool (decide_eq_true (qdg (by assumption) (by omega) hk))
structure PoolD where
  fuel : Int
  opn : List (List Int)
  held : List (List Int)
  busy : List Bool
  don : List (List Int)
  deriving DecidableEq
theorem l_eqPool (f : Int) (o h : List (List Int)) (b : List Bool) (d : List (List Int)) (f' : Int) (o' h' : List (List Int)) (b' : List Bool) (d' : List (List Int)) : CallsV Tryz.prog 14 [.agg [.dat (.i f), .dat (.seq .intss o), .dat (.seq .intss h), .dat (.seq .bools b), .dat (.seq .intss d)], .agg [.dat (.i f'), .dat (.seq .intss o'), .dat (.seq .intss h'), .dat (.seq .bools b'), .dat (.seq .intss d')]] (.dat (.bool (decide ((⟨f, o, h, b, d⟩ : PoolD) = ⟨f', o', h', b', d'⟩)))) := by
  refine CallsV.of_awp qaf qag Tryz.func14 rfl rfl rfl ?_
  conv => whnf
  repeat' (first | ((with_reducible first | refine fun (K1 : AX → AState → Prop) hK => ?_ | (show K1 _ _; subst hK)); conv => whnf) | ((with_reducible refine qhh (fun h => ?_) (fun h => ?_)) <;> first | contradiction | (subst h; conv => whnf) | (conv => whnf)) | ((with_reducible refine qbt (fun h => ?_) (fun h => ?_)) <;> first | contradiction | (exact Bool.noConfusion (Eq.trans (Eq.symm h) (show _ = true by assumption))) | (exact Bool.noConfusion (Eq.trans (Eq.symm (show _ = false by assumption)) h)) | (conv => whnf)) | (refine ⟨(rfl : qac _ = true), rfl, ?_⟩; conv => whnf) | ((first | ((with_reducible refine pcI (g := 40) ?_); refine ⟨_, l_l_eqJobS .., rfl, ?_⟩) | ((with_reducible refine pcI (g := 41) ?_); refine ⟨_, qon .., rfl, ?_⟩)); rotate_right; conv => whnf))
  all_goals (repeat (clear hK; clear K1))
  all_goals first | (simp [*]; done) | skip
end Vg

namespace Vg
open Go Go.Proofs
set_option maxRecDepth 100000
set_option maxHeartbeats 40000000
def szL (L : Int) (n : Nat) : Int := if L - n < 0 then -1 else L - n
theorem szL_neg {L : Int} {n : Nat} (h : L < 0) : szL L n = -1 := by unfold szL; rw [if_pos (by omega)]
theorem qmr {L : Int} {n : Nat} (h : ¬ szL L n < 0) : szL L n = L - n ∧ 0 ≤ L - n := by
  unfold szL at h ⊢; split at h <;> simp_all <;> omega
theorem qfv {L : Int} {n : Nat} (h : L ≤ 1048576) : szL L n ≤ 1048576 := by unfold szL; split <;> omega
theorem qhg {L : Int} {n : Nat} (h : ¬ szL L n < 0) : ¬ L < 0 := fun c => h (by rw [szL_neg c]; decide)
def szPl (L : Int) (o e : List (List Int)) (b : List Bool) (d : List (List Int)) : Int := szL (szL (szL (szL L (qcx o)) (qcx e)) b.length) (qcx d)
theorem szL_c {L : Int} {n : Nat} (h : L < 0) : szL L n < 0 := by rw [szL_neg h]; decide
theorem szL_is {L : Int} {n : Nat} (h : szL L n < 0) : szL L n = -1 := by unfold szL at h ⊢; split at h <;> simp_all <;> omega
structure PlOk (o e : List (List Int)) (b : List Bool) (d : List (List Int)) : Prop where
  o : qcx o ≤ 1048576
  e : qcx e ≤ 1048576
  b : b.length ≤ 1048576
  d : qcx d ≤ 1048576
theorem pl_1 {L : Int} {o e : List (List Int)} {b : List Bool} {d : List (List Int)} (h : szL L (qcx o) < 0) : szPl L o e b d = -1 := szL_is (szL_c (szL_c (szL_c h)))
theorem pl_2 {L : Int} {o e : List (List Int)} {b : List Bool} {d : List (List Int)} (h : szL (szL L (qcx o)) (qcx e) < 0) : szPl L o e b d = -1 := szL_is (szL_c (szL_c h))
theorem pl_3 {L : Int} {o e : List (List Int)} {b : List Bool} {d : List (List Int)} (h : szL (szL (szL L (qcx o)) (qcx e)) b.length < 0) : szPl L o e b d = -1 := szL_is (szL_c h)
theorem pl_4 {L : Int} {o e : List (List Int)} {b : List Bool} {d : List (List Int)} (h : szL (szL (szL (szL L (qcx o)) (qcx e)) b.length) (qcx d) < 0) : szPl L o e b d = -1 := szL_is h
theorem pl_ok {L : Int} {o e : List (List Int)} {b : List Bool} {d : List (List Int)} (hL : L ≤ 1048576) (h : ¬ szPl L o e b d < 0) : PlOk o e b d := by
  have h4 := qmr h
  have h3 := qmr (qhg h)
  have h2 := qmr (qhg (qhg h))
  have h1 := qmr (qhg (qhg (qhg h)))
  exact ⟨by omega, by omega, by omega, by omega⟩
theorem lf_toBoolS (a : List (K.T .bools)) (hl : a.length ≤ 1048576) : CallsF Tryz.prog 55 [.dat (.seq .bools a)] true (fun res B => res = .row 0 ∧ B = [.row 4 .bools a false]) := by
  refine CallsF.of_awp qaf qag Tryz.func55 rfl rfl rfl ?_
  conv => whnf
  repeat' (first | ((with_reducible first | refine fun (K1 : AX → AState → Prop) hK => ?_ | (show K1 _ _; subst hK)); conv => whnf) | (with_reducible exact rfl) | ((with_reducible refine qbe (fun h => ?_) (fun h => ?_)) <;> first | contradiction | (subst h; conv => whnf) | (conv => whnf)) | (refine ⟨(rfl : qac _ = true), rfl, ?_⟩; conv => whnf) | (with_reducible refine qbn ?_ ?_) | (with_reducible refine qdv ?_ ?_) | ((with_reducible refine qad ?_ ?_); conv => whnf) | (refine Exists.intro ({k : Nat // k ≤ a.length}) (Exists.intro (fun ⟨k, hk⟩ => mkS Tryz.f55.ntmps [(0, .dat (.seq .bools a)), (3, .row 7), (4, .dat (.i k))] [(7, .row 4 .bools (a.take k ++ List.replicate (a.length - k) false) false)]) (Exists.intro (fun ⟨k, hk⟩ => a.length - k) (Exists.intro ⟨0, Nat.zero_le _⟩ (And.intro (SubP.sub (σ := [(7, some 7)]) ⟨⟨rfl, rfl, rfl⟩, ⟨(qab ?_), rfl, (qab ?_), trivial⟩, ⟨⟨⟨rfl, rfl⟩, ?_⟩, trivial⟩⟩) (fun ⟨k, hk⟩ => ?_))))); rotate_right; conv => whnf) | (refine Exists.intro ⟨k + 1, ?_⟩ (And.intro ?_ (SubP.sub (σ := [(7, some 7)]) ⟨⟨rfl, rfl, rfl⟩, ⟨(qab ?_), rfl, (qab ?_), trivial⟩, ⟨⟨⟨rfl, rfl⟩, ?_⟩, trivial⟩⟩))) | (intro h; conv => whnf))
  all_goals (repeat (clear hK; clear K1))
  all_goals first | rfl | assumption | omega | (dsimp only; omega) | exact congrArg (Dat.int .i64) (qa1 (by assumption) (by assumption)).symm | exact qli (qlj (K.dflt .bools) false (by assumption)).symm | (simp; omega) | exact qoa (qij h) | (show (_ : Int) * ((1 : Nat) : Int) ≤ _; omega)
theorem l_toJob (a : List Int) (hl : a.length ≤ 1048576) : CallsV Tryz.prog 82 [.agg [.dat (.seq .ints a)]] (.agg [.dat (.seq .ints a)]) := by
  refine CallsV.of_awp qaf qag Tryz.func82 rfl rfl rfl ?_
  conv => whnf
  repeat' (first | ((with_reducible first | refine fun (K1 : AX → AState → Prop) hK => ?_ | (show K1 _ _; subst hK)); conv => whnf) | (refine ⟨(rfl : qac _ = true), rfl, ?_⟩; conv => whnf) | ((with_reducible refine qad ?_ ?_); conv => whnf) | ((with_reducible refine fcI (g := 32) ?_); refine ⟨_, _, lf_toIntS (hl := ?_) .., rfl, fun res B hRB => ?_⟩; rotate_right; obtain ⟨rfl, rfl⟩ := hRB; conv => whnf))
  all_goals (repeat (clear hK; clear K1))
  all_goals first | rfl | assumption | exact Bool.noConfusion (h.symm.trans hp) | (simp_all []; done) | grind [] | (simp_all []; omega)
theorem l_toJobS (a : List (List Int)) (hl : qcx a ≤ 1048576) : CallsV Tryz.prog 54 [.dat (.seq .intss a)] (.dat (.seq .intss a)) := by
  refine CallsV.of_awp qaf qag Tryz.func54 rfl rfl rfl ?_
  conv => whnf
  repeat' (first | ((with_reducible first | refine Alt.l ?_ | refine fun (K1 : AX → AState → Prop) hK => ?_ | (show K1 _ _; subst hK)); conv => whnf) | (with_reducible exact rfl) | ((with_reducible refine qbe (fun h => ?_) (fun h => ?_)) <;> first | contradiction | (subst h; conv => whnf) | (conv => whnf)) | (refine ⟨(rfl : qac _ = true), rfl, ?_⟩; conv => whnf) | (with_reducible refine qbn ?_ ?_) | (with_reducible refine qdv ?_ ?_) | ((with_reducible refine qad ?_ ?_); conv => whnf) | (refine Exists.intro ({k : Nat // k ≤ a.length}) (Exists.intro (fun ⟨k, hk⟩ => mkS Tryz.f54.ntmps [(0, .dat (.seq .intss a)), (3, .row 7), (4, .dat (.i k))] [(7, .row 61 .intss (a.take k ++ List.replicate (a.length - k) []) false)]) (Exists.intro (fun ⟨k, hk⟩ => a.length - k) (Exists.intro ⟨0, Nat.zero_le _⟩ (And.intro (SubP.sub (σ := [(7, some 7)]) ⟨⟨rfl, rfl, rfl⟩, ⟨(qab ?_), rfl, (qab ?_), trivial⟩, ⟨⟨⟨rfl, rfl⟩, ?_⟩, trivial⟩⟩) (fun ⟨k, hk⟩ => ?_))))); rotate_right; conv => whnf) | (refine Exists.intro ⟨k + 1, ?_⟩ (And.intro ?_ (SubP.sub (σ := [(7, some 7)]) ⟨⟨rfl, rfl, rfl⟩, ⟨(qab ?_), rfl, (qab ?_), trivial⟩, ⟨⟨⟨rfl, rfl⟩, ?_⟩, trivial⟩⟩))) | ((with_reducible refine pcI (g := 82) ?_); refine ⟨_, l_toJob (hl := ?_) .., rfl, ?_⟩; rotate_right; conv => whnf) | (intro h; conv => whnf))
  all_goals (repeat (clear hK; clear K1))
  all_goals first | rfl | assumption | omega | (dsimp only; omega) | exact congrArg (Dat.int .i64) (qa1 (by assumption) (by assumption)).symm | exact qli (qlj ([] : List Int) [] (by assumption)).symm | (simp; omega) | exact congrArg (Dat.seq .intss) (qij h).symm | (have h1 := len_le h; unfold qcx at hl; exact Nat.le_trans h1 (by omega)) | (unfold qcx at hl; show (_ : Int) * ((24 : Nat) : Int) ≤ _; omega)
theorem l_toPool (f : Int) (o e : List (List Int)) (b : List Bool) (d : List (List Int)) (h : PlOk o e b d) : CallsV Tryz.prog 21 [.agg [.dat (.i f), .dat (.seq .intss o), .dat (.seq .intss e), .dat (.seq .bools b), .dat (.seq .intss d)]] (.agg [.dat (.i f), .dat (.seq .intss o), .dat (.seq .intss e), .dat (.seq .bools b), .dat (.seq .intss d)]) := by
  refine CallsV.of_awp qaf qag Tryz.func21 rfl rfl rfl ?_
  conv => whnf
  repeat' (first | ((with_reducible first | refine fun (K1 : AX → AState → Prop) hK => ?_ | (show K1 _ _; subst hK)); conv => whnf) | (refine ⟨(rfl : qac _ = true), rfl, ?_⟩; conv => whnf) | ((with_reducible refine qad ?_ ?_); conv => whnf) | ((with_reducible refine pcI (g := 54) ?_); refine ⟨_, l_toJobS (hl := ?_) .., rfl, ?_⟩; rotate_right; conv => whnf) | ((with_reducible refine fcI (g := 55) ?_); refine ⟨_, _, lf_toBoolS (hl := ?_) .., rfl, fun res B hRB => ?_⟩; rotate_right; obtain ⟨rfl, rfl⟩ := hRB; conv => whnf))
  all_goals (repeat (clear hK; clear K1))
  all_goals first | exact h.o | exact h.e | exact h.b | exact h.d | exact True.intro | rfl | skip
theorem l_szJob (a : List Int) (left : Int) (h0 : 0 ≤ left) (h1 : left ≤ 1048576) : CallsV Tryz.prog 80 [.agg [.dat (.seq .ints a)], .dat (.i left)] (.dat (.i (if left - a.length < 0 then -1 else left - a.length))) := by
  refine CallsV.of_awp qaf qag Tryz.func80 rfl rfl rfl ?_
  conv => whnf
  repeat' (first | ((with_reducible first | refine fun (K1 : AX → AState → Prop) hK => ?_ | (show K1 _ _; subst hK)); conv => whnf) | ((with_reducible refine qbe (fun h => ?_) (fun h => ?_)) <;> first | contradiction | (subst h; conv => whnf) | (conv => whnf)) | (refine ⟨(rfl : qac _ = true), rfl, ?_⟩; conv => whnf) | ((with_reducible refine pcI (g := 99) ?_); refine ⟨_, l_szIntS (h0 := ?_) (h1 := ?_) .., rfl, ?_⟩; rotate_right; conv => whnf))
  all_goals (repeat (clear hK; clear K1))
  all_goals first | (with_reducible assumption) | (refine congrArg Dat.i ?_; split at h <;> split <;> omega) | skip
theorem l_szJobS0 (a : List (List Int)) (left : Int) (h0 : 0 ≤ left) (h1 : left ≤ 1048576) : CallsV Tryz.prog 48 [.dat (.seq .intss a), .dat (.i left)] (.dat (.i (if left - qcx a < 0 then -1 else left - qcx a))) := by
  refine CallsV.of_awp qaf qag Tryz.func48 rfl rfl rfl ?_
  conv => whnf
  repeat' (first | ((with_reducible first | refine fun (K1 : AX → AState → Prop) hK => ?_ | (show K1 _ _; subst hK)); conv => whnf) | (with_reducible exact rfl) | ((with_reducible refine qbe (fun h => ?_) (fun h => ?_)) <;> first | contradiction | (subst h; conv => whnf) | (conv => whnf)) | (refine ⟨(rfl : qac _ = true), rfl, ?_⟩; conv => whnf) | (with_reducible refine qbn ?_ ?_) | ((with_reducible refine qad ?_ ?_); conv => whnf) | (refine Exists.intro ({k : Nat // 0 ≤ left - (a.length + ((a.take k).map List.length).sum : Nat)}) (Exists.intro (fun ⟨k, hk⟩ => mkS Tryz.f48.ntmps [(0, .dat (.seq .intss a)), (1, .dat (.i (left - (a.length + ((a.take k).map List.length).sum : Nat)))), (5, .dat (.i k))] []) (Exists.intro (fun ⟨k, hk⟩ => a.length - k) (Exists.intro ⟨0, ?_⟩ (And.intro (SubP.sub (σ := []) ⟨⟨rfl, rfl, rfl⟩, ⟨(qab ?_), (qab ?_), (qab ?_), trivial⟩, trivial⟩) (fun ⟨k, hk⟩ => ?_))))); rotate_right; conv => whnf) | (refine Exists.intro ⟨k + 1, ?_⟩ (And.intro ?_ (SubP.sub (σ := []) ⟨⟨rfl, rfl, rfl⟩, ⟨(qab ?_), (qab ?_), (qab ?_), trivial⟩, trivial⟩))) | ((with_reducible refine pcI (g := 80) ?_); refine ⟨_, l_szJob (h0 := ?_) (h1 := ?_) .., rfl, ?_⟩; rotate_right; conv => whnf) | (intro h; conv => whnf))
  all_goals (repeat (clear hK; clear K1))
  all_goals first | rfl | assumption | omega | (dsimp only; omega) | exact congrArg (Dat.int .i64) (qa1 (by assumption) (by assumption)).symm | (exact congrArg Dat.i (by have hm : maxLen = 9223372036854775807 := rfl; have w1 : IntKind.i64.wrap (left - a.length) = left - a.length := qah (by omega) (by omega); simp only [w1] at h; unfold qcx; split <;> omega)) | (have hm : maxLen = 9223372036854775807 := rfl; have w1 : IntKind.i64.wrap (left - a.length) = left - a.length := qah (by omega) (by omega); simp only [w1] at h; simp; omega) | exact szSS_no (by assumption) h | exact (qmq (by assumption) h).1 | exact congrArg Dat.i (qmq (by assumption) h).2 | exact congrArg Dat.i (szSS_end h hk)
theorem l_szBoolS0 (a : List Bool) (left : Int) (h0 : 0 ≤ left) (h1 : left ≤ 1048576) : CallsV Tryz.prog 49 [.dat (.seq .bools a), .dat (.i left)] (.dat (.i (if left - a.length < 0 then -1 else left - a.length))) := by
  refine CallsV.of_awp qaf qag Tryz.func49 rfl rfl rfl ?_
  conv => whnf
  repeat' (first | ((with_reducible first | refine fun (K1 : AX → AState → Prop) hK => ?_ | (show K1 _ _; subst hK)); conv => whnf) | ((with_reducible refine qbe (fun h => ?_) (fun h => ?_)) <;> first | contradiction | (subst h; conv => whnf) | (conv => whnf)) | (refine ⟨(rfl : qac _ = true), rfl, ?_⟩; conv => whnf) | (intro h; conv => whnf))
  all_goals (repeat (clear hK; clear K1))
  all_goals
    have hm : maxLen = 9223372036854775807 := rfl
    rw [qah (by omega) (by omega)] at *
    simp [h]
theorem l_szJobS (a : List (List Int)) (left : Int) (h0 : 0 ≤ left) (h1 : left ≤ 1048576) : CallsV Tryz.prog 48 [.dat (.seq .intss a), .dat (.i left)] (.dat (.i (szL left (qcx a)))) := l_szJobS0 a left h0 h1
theorem l_szBoolS (a : List Bool) (left : Int) (h0 : 0 ≤ left) (h1 : left ≤ 1048576) : CallsV Tryz.prog 49 [.dat (.seq .bools a), .dat (.i left)] (.dat (.i (szL left a.length))) := l_szBoolS0 a left h0 h1
theorem l_szPool (f : Int) (o e : List (List Int)) (b : List Bool) (d : List (List Int)) (left : Int) (h0 : 0 ≤ left) (h1 : left ≤ 1048576) : CallsV Tryz.prog 19 [.agg [.dat (.i f), .dat (.seq .intss o), .dat (.seq .intss e), .dat (.seq .bools b), .dat (.seq .intss d)], .dat (.i left)] (.dat (.i (szPl left o e b d))) := by
  refine CallsV.of_awp qaf qag Tryz.func19 rfl rfl rfl ?_
  conv => whnf
  repeat' (first | ((with_reducible first | refine fun (K1 : AX → AState → Prop) hK => ?_ | (show K1 _ _; subst hK)); conv => whnf) | ((with_reducible refine qbe (fun h => ?_) (fun h => ?_)) <;> first | contradiction | (subst h; conv => whnf) | (conv => whnf)) | (refine ⟨(rfl : qac _ = true), rfl, ?_⟩; conv => whnf) | ((first | ((with_reducible refine pcI (g := 48) ?_); refine ⟨_, l_szJobS (h0 := ?_) (h1 := ?_) .., rfl, ?_⟩) | ((with_reducible refine pcI (g := 49) ?_); refine ⟨_, l_szBoolS (h0 := ?_) (h1 := ?_) .., rfl, ?_⟩)); rotate_right; conv => whnf))
  all_goals (repeat (clear hK; clear K1))
  all_goals first | (with_reducible assumption) | ((with_reducible show (0 : Int) ≤ _); exact Int.not_lt.1 (by with_reducible assumption)) | ((with_reducible show _ ≤ (1048576 : Int)); first | exact qfv h1 | exact qfv (qfv h1) | exact qfv (qfv (qfv h1))) | (refine congrArg Dat.i ?_; first | exact pl_1 (by with_reducible assumption) | exact pl_2 (by with_reducible assumption) | exact pl_3 (by with_reducible assumption) | exact pl_4 (by with_reducible assumption)) | rfl | skip
end Vg
