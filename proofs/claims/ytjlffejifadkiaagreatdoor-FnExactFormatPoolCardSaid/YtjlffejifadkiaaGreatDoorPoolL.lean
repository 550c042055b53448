/- Sessions: contracts of the functions that look at them, and of the law FnExactSessionOk. Condition: lists are no longer than the law lets through. -/
import Derived.Test.YtjlffejifadkiaaGreatDoorBase
namespace Vg
open Go Go.Proofs
set_option maxRecDepth 100000
set_option maxHeartbeats 40000000
def qci {α : Type} (a : List (List α)) : Nat := a.length + (a.map List.length).sum
theorem qlc {α : Type} {a : List (List α)} {k : Nat} (h : (k : Int) < a.length) : ((a.take (k + 1)).map List.length).sum = ((a.take k).map List.length).sum + (a.getD k []).length := by
  have h' : k < a.length := by omega
  rw [List.take_succ_eq_append_getElem h']
  simp only [List.map_append, List.sum_append, List.map_cons, List.map_nil, List.sum_cons, List.sum_nil, List.getD_eq_getElem?_getD, List.getElem?_eq_getElem h', Option.getD_some, Nat.add_zero]
theorem sum_le {α : Type} {a : List (List α)} (k : Nat) : ((a.take k).map List.length).sum ≤ (a.map List.length).sum := by
  induction a generalizing k with
  | nil => simp
  | cons x a ih =>
    cases k with
    | zero => simp
    | succ k =>
      simp only [List.take_succ_cons, List.map_cons, List.sum_cons]
      have := ih k
      omega
theorem sum_end {α : Type} {a : List (List α)} {k : Nat} (h : ¬ (k : Int) < a.length) : ((a.take k).map List.length).sum = (a.map List.length).sum := by
  rw [List.take_of_length_le omG]
theorem len_le {α : Type} {a : List (List α)} {k : Nat} (h : (k : Int) < a.length) : (a.getD k []).length ≤ (a.map List.length).sum := by
  have h' : k < a.length := by omega
  have h1 := qlc h
  have h2 := sum_le (a := a) (k + 1)
  omega
theorem szSS_no {a : List (List Int)} {left : Int} {k : Nat} (hk : (k : Int) < a.length) (h : (if left - (a.length + ((a.take k).map List.length).sum : Nat) - (a.getD k []).length < 0 then -1 else left - (a.length + ((a.take k).map List.length).sum : Nat) - (a.getD k []).length) < 0) :
    Dat.i (if left - qci a < 0 then -1 else left - qci a) = Dat.int .i64 (-1) := by
  have e := qlc hk
  have l := sum_le (a := a) (k + 1)
  refine congrArg Dat.i ?_
  unfold qci
  split at h <;> split <;> omega
theorem qmt {a : List (List Int)} {left : Int} {k : Nat} (hk : (k : Int) < a.length) (h : ¬ (if left - (a.length + ((a.take k).map List.length).sum : Nat) - (a.getD k []).length < 0 then -1 else left - (a.length + ((a.take k).map List.length).sum : Nat) - (a.getD k []).length) < 0) :
    0 ≤ left - (a.length + ((a.take (k + 1)).map List.length).sum : Nat) ∧ left - (a.length + ((a.take (k + 1)).map List.length).sum : Nat) = (if left - (a.length + ((a.take k).map List.length).sum : Nat) - (a.getD k []).length < 0 then -1 else left - (a.length + ((a.take k).map List.length).sum : Nat) - (a.getD k []).length) := by
  have e := qlc hk
  split at h
  · omega
  · rename_i h'
    rw [if_neg h']; omega
theorem szSS_end {a : List (List Int)} {left : Int} {k : Nat} (h : ¬ (k : Int) < a.length) (hk : 0 ≤ left - (a.length + ((a.take k).map List.length).sum : Nat)) : (if left - qci a < 0 then -1 else left - qci a) = left - (a.length + ((a.take k).map List.length).sum : Nat) := by
  have e := sum_end h
  unfold qci
  rw [← e, if_neg omG]
theorem lf_toIntS (a : List (K.T .ints)) (hl : a.length ≤ 1048576) : CallsF Tryz.prog 15 [.dat (.seq .ints a)] true (fun res B => res = .row 0 ∧ B = [.row 3 .ints a false]) := by
  refine oF Tryz.func15 ⟨?_⟩
  repeat' (first | ((with_reducible refine fun (K1 : KT) hK => ?_); refine stK ⟨?_⟩) | ((with_reducible show K1 _ _); subst hK; conv => whnf) | (with_reducible exact rfl) | refine st0 ⟨?_⟩ | ((with_reducible refine SplS.mk (fun h => ?_) (fun h => ?_)) <;> first | exact ctA | (subst h; conv => whnf) | (conv => whnf)) | refine stB ⟨?_⟩ ⟨?_⟩ | (refine Exists.intro ({k : Nat // k ≤ a.length}) (Exists.intro (fun ⟨k, hk⟩ => mkS Tryz.f15.ntmps [(0, .dat (.seq .ints a)), (3, .row 7), (4, .dat (.i k))] [(7, .row 3 .ints (a.take k ++ List.replicate (a.length - k) (0 : Int)) false)]) (Exists.intro (fun ⟨k, hk⟩ => a.length - k) (Exists.intro ⟨0, Nat.zero_le _⟩ (And.intro (SubP.sub (σ := [(7, some 7)]) ⟨⟨rfl, rfl, rfl⟩, ⟨(qab ?_), rfl, (qab ?_), trivial⟩, ⟨⟨⟨rfl, rfl⟩, ?_⟩, trivial⟩⟩) (fun ⟨k, hk⟩ => ?_))))); rotate_right; conv => whnf) | (refine Exists.intro ⟨k + 1, ?_⟩ (And.intro ?_ (SubP.sub (σ := [(7, some 7)]) ⟨⟨rfl, rfl, rfl⟩, ⟨(qab ?_), rfl, (qab ?_), trivial⟩, ⟨⟨⟨rfl, rfl⟩, ?_⟩, trivial⟩⟩))) | (intro h; conv => whnf))
  all_goals repeat clear hK K1
  all_goals first | rfl | assumption | exact Bool.noConfusion (h.symm.trans hp) | omega | (dsimp only; omega) | exact congrArg (Dat.int .i64) (qan (by assumption) (by assumption)).symm | exact qio (qip (K.dflt .ints) (0 : Int) (by assumption)).symm | (simp; omega) | exact qok (qgb h) | (show (_ : Int) * ((8 : Nat) : Int) ≤ _; omega)
theorem l_eqIntS (a b : List (K.T .ints)) : CallsV Tryz.prog 16 [.dat (.seq .ints a), .dat (.seq .ints b)] (.dat (.bool (decide (a = b)))) := by
  refine oV Tryz.func16 ⟨?_⟩
  repeat' (first | ((with_reducible refine fun (K1 : KT) hK => ?_); refine stK ⟨?_⟩) | ((with_reducible show K1 _ _); subst hK; conv => whnf) | (with_reducible exact rfl) | refine st0 ⟨?_⟩ | ((with_reducible refine SplS.mk (fun h => ?_) (fun h => ?_)) <;> first | exact ctA | (subst h; conv => whnf) | (conv => whnf)) | refine stB ⟨?_⟩ ⟨?_⟩ | (refine Exists.intro ({k : Nat // a.take k = b.take k}) (Exists.intro (fun ⟨k, hk⟩ => mkS Tryz.f16.ntmps [(0, .dat (.seq .ints a)), (1, .dat (.seq .ints b)), (5, .dat (.i k))] []) (Exists.intro (fun ⟨k, hk⟩ => a.length - k) (Exists.intro ⟨0, rfl⟩ (And.intro (SubP.sub (σ := []) ⟨⟨rfl, rfl, rfl⟩, ⟨(qab ?_), (qab ?_), (qab ?_), trivial⟩, trivial⟩) (fun ⟨k, hk⟩ => ?_))))); rotate_right; conv => whnf) | (refine Exists.intro ⟨k + 1, ?_⟩ (And.intro ?_ (SubP.sub (σ := []) ⟨⟨rfl, rfl, rfl⟩, ⟨(qab ?_), (qab ?_), (qab ?_), trivial⟩, trivial⟩))) | (intro h; conv => whnf))
  all_goals repeat clear hK K1
  all_goals first | rfl | assumption | exact Bool.noConfusion (h.symm.trans hp) | omega | (dsimp only; omega) | exact congrArg (Dat.int .i64) (qan (by assumption) (by assumption)).symm | exact congrArg Dat.bool (decide_eq_false (fun e => h (by rw [e]))) | exact qa9 (K.dflt .ints) (by assumption) omG hk (of_decide_eq_true h) | exact qa9 (K.dflt .ints) (by assumption) omG hk h | exact congrArg Dat.bool (decide_eq_true (qcz (by assumption) omG hk))
theorem l_szIntS (a : List Int) (left : Int) (h0 : 0 ≤ left) (h1 : left ≤ 1048576) : CallsV Tryz.prog 121 [.dat (.seq .ints a), .dat (.i left)] (.dat (.i (if left - a.length < 0 then -1 else left - a.length))) := by
  refine oV Tryz.func121 ⟨?_⟩
  repeat' (first | ((with_reducible refine fun (K1 : KT) hK => ?_); refine stK ⟨?_⟩) | ((with_reducible show K1 _ _); subst hK; conv => whnf) | (with_reducible exact rfl) | refine st0 ⟨?_⟩ | ((with_reducible refine SplS.mk (fun h => ?_) (fun h => ?_)) <;> first | exact ctA | (subst h; conv => whnf) | (conv => whnf)) | (intro h; conv => whnf))
  all_goals repeat clear hK K1
  all_goals
    have hm : maxLen = 9223372036854775807 := rfl
    rw [qac omG omG] at *
    simp [h]
end Vg

namespace Vg
open Go Go.Proofs
def szL (L : Int) (n : Nat) : Int := if L - n < 0 then -1 else L - n
theorem szL_neg {L : Int} {n : Nat} (h : L < 0) : szL L n = -1 := by unfold szL; rw [if_pos omG]
theorem qmu {L : Int} {n : Nat} (h : ¬ szL L n < 0) : szL L n = L - n ∧ 0 ≤ L - n := by
  unfold szL at h ⊢; split at h <;> simp_all <;> omega
theorem qfe {L : Int} {n : Nat} (h : L ≤ 1048576) : szL L n ≤ 1048576 := by unfold szL; split <;> omega
theorem qg6 {L : Int} {n : Nat} (h : ¬ szL L n < 0) : ¬ L < 0 := fun c => h (by rw [szL_neg c]; decide)
theorem szL_c {L : Int} {n : Nat} (h : L < 0) : szL L n < 0 := by rw [szL_neg h]; decide
theorem szL_is {L : Int} {n : Nat} (h : szL L n < 0) : szL L n = -1 := by unfold szL at h ⊢; split at h <;> simp_all <;> omega
end Vg

namespace Vg
open Go Go.Proofs
theorem wr {k : Int} (h0 : 0 ≤ k) (h1 : k ≤ 2199023255552) : IntKind.i64.wrap (k + 1) = k + 1 := qac omG omG
theorem mkw1 {k : Int} {i n : Nat} (h0 : 0 ≤ k) (h1 : k ≤ 1099511627776) (hi : i ≤ n) (hn : n ≤ 4194304) : IntKind.i64.wrap (k + 4 * (i : Nat) + 1) = k + 4 * (i : Nat) + 1 := wr omG omG
theorem w2 {k : Int} {i n : Nat} (h0 : 0 ≤ k) (h1 : k ≤ 1099511627776) (hi : i ≤ n) (hn : n ≤ 4194304) : IntKind.i64.wrap (IntKind.i64.wrap (k + 4 * (i : Nat) + 1) + 1) = k + 4 * (i : Nat) + 1 + 1 := by rw [mkw1 h0 h1 hi hn]; exact wr omG omG
theorem w3 {k : Int} {i n : Nat} (h0 : 0 ≤ k) (h1 : k ≤ 1099511627776) (hi : i ≤ n) (hn : n ≤ 4194304) : IntKind.i64.wrap (IntKind.i64.wrap (IntKind.i64.wrap (k + 4 * (i : Nat) + 1) + 1) + 1) = k + 4 * (i : Nat) + 1 + 1 + 1 := by rw [w2 h0 h1 hi hn]; exact wr omG omG
theorem w4 {k : Int} {i n : Nat} (h0 : 0 ≤ k) (h1 : k ≤ 1099511627776) (hi : i ≤ n) (hn : n ≤ 4194304) : IntKind.i64.wrap (IntKind.i64.wrap (IntKind.i64.wrap (IntKind.i64.wrap (k + 4 * (i : Nat) + 1) + 1) + 1) + 1) = k + 4 * ((i + 1 : Nat) : Int) := by rw [w3 h0 h1 hi hn, wr omG omG]; omega
end Vg

namespace Vg
open Go Go.Proofs
set_option maxRecDepth 100000
set_option maxHeartbeats 40000000
theorem l_eqJob (a b : List Int) : CallsV Tryz.prog 98 [.agg [.dat (.seq .ints a)], .agg [.dat (.seq .ints b)]] (.dat (.bool (decide (a = b)))) := by
  refine oV Tryz.func98 ⟨?_⟩
  repeat' (first | ((with_reducible refine fun (K1 : KT) hK => ?_); refine stK ⟨?_⟩) | ((with_reducible show K1 _ _); subst hK; conv => whnf) | (with_reducible exact rfl) | refine st0 ⟨?_⟩ | ((with_reducible refine SplS.mk (fun h => ?_) (fun h => ?_)) <;> first | exact ctP | (subst h; conv => whnf) | (conv => whnf)) | ((with_reducible first | refine pcI (g := 16) ?_ | show Exists _); refine ⟨_, l_eqIntS .., rfl, ?_⟩; rotate_right; conv => whnf) | (intro h; conv => whnf))
  all_goals repeat clear hK K1
  all_goals first | (simp [*]; done) | skip
theorem l_l_eqJobS (a b : List (K.T .intss)) : CallsV Tryz.prog 58 [.dat (.seq .intss a), .dat (.seq .intss b)] (.dat (.bool (decide (a = b)))) := by
  refine oV Tryz.func58 ⟨?_⟩
  repeat' (first | ((with_reducible refine fun (K1 : KT) hK => ?_); refine stK ⟨?_⟩) | ((with_reducible show K1 _ _); subst hK; conv => whnf) | (with_reducible exact rfl) | refine st0 ⟨?_⟩ | ((with_reducible refine SplS.mk (fun h => ?_) (fun h => ?_)) <;> first | exact ctP | (subst h; conv => whnf) | (conv => whnf)) | refine stB ⟨?_⟩ ⟨?_⟩ | (refine Exists.intro ({k : Nat // a.take k = b.take k}) (Exists.intro (fun ⟨k, hk⟩ => mkS Tryz.f58.ntmps [(0, .dat (.seq .intss a)), (1, .dat (.seq .intss b)), (5, .dat (.i k))] []) (Exists.intro (fun ⟨k, hk⟩ => a.length - k) (Exists.intro ⟨0, rfl⟩ (And.intro (SubP.sub (σ := []) ⟨⟨rfl, rfl, rfl⟩, ⟨(qab ?_), (qab ?_), (qab ?_), trivial⟩, trivial⟩) (fun ⟨k, hk⟩ => ?_))))); rotate_right; conv => whnf) | (refine Exists.intro ⟨k + 1, ?_⟩ (And.intro ?_ (SubP.sub (σ := []) ⟨⟨rfl, rfl, rfl⟩, ⟨(qab ?_), (qab ?_), (qab ?_), trivial⟩, trivial⟩))) | ((with_reducible show Exists _); refine Exists.intro _ (And.intro (l_eqJob ..) (And.intro rfl ?_)); rotate_right; conv => whnf) | (intro h; conv => whnf))
  all_goals repeat clear hK K1
  all_goals first | rfl | assumption | exact Bool.noConfusion (h.symm.trans hp) | omega | (dsimp only; omega) | exact congrArg (Dat.int .i64) (qan (by assumption) (by assumption)).symm | exact congrArg Dat.bool (decide_eq_false (fun e => h (by rw [e]))) | exact qa9 (K.dflt .intss) (by assumption) omG hk (of_decide_eq_true h) | exact qa9 (K.dflt .intss) (by assumption) omG hk h | exact congrArg Dat.bool (decide_eq_false (qd6 (of_decide_eq_false h))) | exact congrArg Dat.bool (decide_eq_false (qd6 h)) | exact congrArg Dat.bool (decide_eq_true (qcz (by assumption) omG hk))
theorem qoz (a b : List (K.T .bools)) : CallsV Tryz.prog 59 [.dat (.seq .bools a), .dat (.seq .bools b)] (.dat (.bool (decide (a = b)))) := by
  refine oV Tryz.func59 ⟨?_⟩
  repeat' (first | ((with_reducible refine fun (K1 : KT) hK => ?_); refine stK ⟨?_⟩) | ((with_reducible show K1 _ _); subst hK; conv => whnf) | (with_reducible exact rfl) | refine st0 ⟨?_⟩ | ((with_reducible refine SplS.mk (fun h => ?_) (fun h => ?_)) <;> first | exact ctP | ((fail_if_success (have _x : @Eq Bool _ _ := h)); subst h; conv => whnf) | (conv => whnf)) | refine stB ⟨?_⟩ ⟨?_⟩ | (refine Exists.intro ({k : Nat // a.take k = b.take k}) (Exists.intro (fun ⟨k, hk⟩ => mkS Tryz.f59.ntmps [(0, .dat (.seq .bools a)), (1, .dat (.seq .bools b)), (5, .dat (.i k))] []) (Exists.intro (fun ⟨k, hk⟩ => a.length - k) (Exists.intro ⟨0, rfl⟩ (And.intro (SubP.sub (σ := []) ⟨⟨rfl, rfl, rfl⟩, ⟨(qab ?_), (qab ?_), (qab ?_), trivial⟩, trivial⟩) (fun ⟨k, hk⟩ => ?_))))); rotate_right; conv => whnf) | (refine Exists.intro ⟨k + 1, ?_⟩ (And.intro ?_ (SubP.sub (σ := []) ⟨⟨rfl, rfl, rfl⟩, ⟨(qab ?_), (qab ?_), (qab ?_), trivial⟩, trivial⟩))) | (intro h; conv => whnf))
  all_goals repeat clear hK K1
  all_goals first | rfl | assumption | exact Bool.noConfusion (h.symm.trans hp) | omega | (dsimp only; omega) | exact congrArg (Dat.int .i64) (qan (by assumption) (by assumption)).symm | exact congrArg Dat.bool (decide_eq_false (fun e => h (by rw [e]))) | exact qa9 (K.dflt .bools) (by assumption) omG hk (of_decide_eq_true h) | exact qa9 (K.dflt .bools) (by assumption) omG hk h | exact congrArg Dat.bool (decide_eq_false (qd6 (of_decide_eq_false h))) | exact congrArg Dat.bool (decide_eq_false (qd6 h)) | exact congrArg Dat.bool (decide_eq_true (qcz (by assumption) omG hk))
structure PoolD where
  fuel : Int
  opn : List (List Int)
  held : List (List Int)
  busy : List Bool
  don : List (List Int)
  deriving DecidableEq
theorem l_eqPool (f : Int) (o h : List (List Int)) (b : List Bool) (d : List (List Int)) (f' : Int) (o' h' : List (List Int)) (b' : List Bool) (d' : List (List Int)) : CallsV Tryz.prog 25 [.agg [.dat (.i f), .dat (.seq .intss o), .dat (.seq .intss h), .dat (.seq .bools b), .dat (.seq .intss d)], .agg [.dat (.i f'), .dat (.seq .intss o'), .dat (.seq .intss h'), .dat (.seq .bools b'), .dat (.seq .intss d')]] (.dat (.bool (decide ((⟨f, o, h, b, d⟩ : PoolD) = ⟨f', o', h', b', d'⟩)))) := by
  refine oV Tryz.func25 ⟨?_⟩
  repeat' (first | ((with_reducible refine fun (K1 : KT) hK => ?_); refine stK ⟨?_⟩) | ((with_reducible show K1 _ _); subst hK; conv => whnf) | (with_reducible exact rfl) | refine st0 ⟨?_⟩ | ((with_reducible refine SplS.mk (fun h => ?_) (fun h => ?_)) <;> first | exact ctP | ((fail_if_success (have _x : @Eq Bool _ _ := h)); subst h; conv => whnf) | (conv => whnf)) | ((with_reducible first | refine pcI (g := 58) ?_ | show Exists _); refine ⟨_, l_l_eqJobS .., rfl, ?_⟩; rotate_right; conv => whnf) | ((with_reducible first | refine pcI (g := 59) ?_ | show Exists _); refine ⟨_, qoz .., rfl, ?_⟩; rotate_right; conv => whnf) | (intro h; conv => whnf))
  all_goals repeat clear hK K1
  all_goals first | (simp [*]; done) | skip
end Vg

namespace Vg
open Go Go.Proofs
set_option maxRecDepth 100000
set_option maxHeartbeats 40000000
def szPl (L : Int) (o e : List (List Int)) (b : List Bool) (d : List (List Int)) : Int := szL (szL (szL (szL L (qci o)) (qci e)) b.length) (qci d)
structure PlOk (o e : List (List Int)) (b : List Bool) (d : List (List Int)) : Prop where
  o : qci o ≤ 1048576
  e : qci e ≤ 1048576
  b : b.length ≤ 1048576
  d : qci d ≤ 1048576
theorem pl_1 {L : Int} {o e : List (List Int)} {b : List Bool} {d : List (List Int)} (h : szL L (qci o) < 0) : szPl L o e b d = -1 := szL_is (szL_c (szL_c (szL_c h)))
theorem pl_2 {L : Int} {o e : List (List Int)} {b : List Bool} {d : List (List Int)} (h : szL (szL L (qci o)) (qci e) < 0) : szPl L o e b d = -1 := szL_is (szL_c (szL_c h))
theorem pl_3 {L : Int} {o e : List (List Int)} {b : List Bool} {d : List (List Int)} (h : szL (szL (szL L (qci o)) (qci e)) b.length < 0) : szPl L o e b d = -1 := szL_is (szL_c h)
theorem pl_4 {L : Int} {o e : List (List Int)} {b : List Bool} {d : List (List Int)} (h : szL (szL (szL (szL L (qci o)) (qci e)) b.length) (qci d) < 0) : szPl L o e b d = -1 := szL_is h
theorem pl_ok {L : Int} {o e : List (List Int)} {b : List Bool} {d : List (List Int)} (hL : L ≤ 1048576) (h : ¬ szPl L o e b d < 0) : PlOk o e b d := by
  have h4 := qmu h
  have h3 := qmu (qg6 h)
  have h2 := qmu (qg6 (qg6 h))
  have h1 := qmu (qg6 (qg6 (qg6 h)))
  exact ⟨by omega, by omega, by omega, by omega⟩
theorem lf_toBoolS (a : List (K.T .bools)) (hl : a.length ≤ 1048576) : CallsF Tryz.prog 53 [.dat (.seq .bools a)] true (fun res B => res = .row 0 ∧ B = [.row 4 .bools a false]) := by
  refine oF Tryz.func53 ⟨?_⟩
  repeat' (first | ((with_reducible refine fun (K1 : KT) hK => ?_); refine stK ⟨?_⟩) | ((with_reducible show K1 _ _); subst hK; conv => whnf) | (with_reducible exact rfl) | refine st0 ⟨?_⟩ | ((with_reducible refine SplS.mk (fun h => ?_) (fun h => ?_)) <;> first | exact ctP | (subst h; conv => whnf) | (conv => whnf)) | refine stB ⟨?_⟩ ⟨?_⟩ | (refine Exists.intro ({k : Nat // k ≤ a.length}) (Exists.intro (fun ⟨k, hk⟩ => mkS Tryz.f53.ntmps [(0, .dat (.seq .bools a)), (3, .row 7), (4, .dat (.i k))] [(7, .row 4 .bools (a.take k ++ List.replicate (a.length - k) false) false)]) (Exists.intro (fun ⟨k, hk⟩ => a.length - k) (Exists.intro ⟨0, Nat.zero_le _⟩ (And.intro (SubP.sub (σ := [(7, some 7)]) ⟨⟨rfl, rfl, rfl⟩, ⟨(qab ?_), rfl, (qab ?_), trivial⟩, ⟨⟨⟨rfl, rfl⟩, ?_⟩, trivial⟩⟩) (fun ⟨k, hk⟩ => ?_))))); rotate_right; conv => whnf) | (refine Exists.intro ⟨k + 1, ?_⟩ (And.intro ?_ (SubP.sub (σ := [(7, some 7)]) ⟨⟨rfl, rfl, rfl⟩, ⟨(qab ?_), rfl, (qab ?_), trivial⟩, ⟨⟨⟨rfl, rfl⟩, ?_⟩, trivial⟩⟩))) | (intro h; conv => whnf))
  all_goals repeat clear hK K1
  all_goals first | rfl | assumption | exact Bool.noConfusion (h.symm.trans hp) | omega | (dsimp only; omega) | exact congrArg (Dat.int .i64) (qan (by assumption) (by assumption)).symm | exact qio (qip (K.dflt .bools) false (by assumption)).symm | (simp; omega) | exact qok (qgb h) | (show (_ : Int) * ((1 : Nat) : Int) ≤ _; omega)
theorem l_toJob (a : List Int) (hl : a.length ≤ 1048576) : CallsV Tryz.prog 90 [.agg [.dat (.seq .ints a)]] (.agg [.dat (.seq .ints a)]) := by
  refine oV Tryz.func90 ⟨?_⟩
  repeat' (first | ((with_reducible refine fun (K1 : KT) hK => ?_); refine stK ⟨?_⟩) | ((with_reducible show K1 _ _); subst hK; conv => whnf) | (with_reducible exact rfl) | refine st0 ⟨?_⟩ | ((with_reducible refine SplS.mk (fun h => ?_) (fun h => ?_)) <;> first | exact ctP | (subst h; conv => whnf) | (conv => whnf)) | refine stB ⟨?_⟩ ⟨?_⟩ | ((with_reducible refine fcI (g := 15) ?_); refine ⟨_, _, lf_toIntS (hl := ?_) .., rfl, fun res B hRB => ?_⟩; rotate_right; obtain ⟨rfl, rfl⟩ := hRB; conv => whnf) | (intro h; conv => whnf))
  all_goals repeat clear hK K1
  all_goals first | rfl | assumption | exact Bool.noConfusion (h.symm.trans hp) | (simp_all []; done) | grind [] | (simp_all []; omega)
theorem l_toJobS (a : List (List Int)) (hl : qci a ≤ 1048576) : CallsV Tryz.prog 52 [.dat (.seq .intss a)] (.dat (.seq .intss a)) := by
  refine oV Tryz.func52 ⟨?_⟩
  repeat' (first | ((with_reducible refine fun (K1 : KT) hK => ?_); refine stK ⟨?_⟩) | ((with_reducible show K1 _ _); subst hK; conv => whnf) | (with_reducible exact rfl) | refine st0 ⟨?_⟩ | ((with_reducible refine SplS.mk (fun h => ?_) (fun h => ?_)) <;> first | exact ctP | (subst h; conv => whnf) | (conv => whnf)) | refine stB ⟨?_⟩ ⟨?_⟩ | (refine Exists.intro ({k : Nat // k ≤ a.length}) (Exists.intro (fun ⟨k, hk⟩ => mkS Tryz.f52.ntmps [(0, .dat (.seq .intss a)), (3, .row 7), (4, .dat (.i k))] [(7, .row 85 .intss (a.take k ++ List.replicate (a.length - k) []) false)]) (Exists.intro (fun ⟨k, hk⟩ => a.length - k) (Exists.intro ⟨0, Nat.zero_le _⟩ (And.intro (SubP.sub (σ := [(7, some 7)]) ⟨⟨rfl, rfl, rfl⟩, ⟨(qab ?_), rfl, (qab ?_), trivial⟩, ⟨⟨⟨rfl, rfl⟩, ?_⟩, trivial⟩⟩) (fun ⟨k, hk⟩ => ?_))))); rotate_right; conv => whnf) | (refine Exists.intro ⟨k + 1, ?_⟩ (And.intro ?_ (SubP.sub (σ := [(7, some 7)]) ⟨⟨rfl, rfl, rfl⟩, ⟨(qab ?_), rfl, (qab ?_), trivial⟩, ⟨⟨⟨rfl, rfl⟩, ?_⟩, trivial⟩⟩))) | ((with_reducible first | refine pcI (g := 90) ?_ | show Exists _); refine ⟨_, l_toJob (hl := ?_) .., rfl, ?_⟩; rotate_right; conv => whnf) | (intro h; conv => whnf))
  all_goals repeat clear hK K1
  all_goals first | rfl | assumption | exact Bool.noConfusion (h.symm.trans hp) | omega | (dsimp only; omega) | exact congrArg (Dat.int .i64) (qan (by assumption) (by assumption)).symm | exact qio (qip ([] : List Int) [] (by assumption)).symm | (simp; omega) | exact congrArg (Dat.seq .intss) (qgb h).symm | (have h1 := len_le h; unfold qci at hl; exact Nat.le_trans h1 omG) | (unfold qci at hl; show (_ : Int) * ((24 : Nat) : Int) ≤ _; omega)
theorem l_toPool (f : Int) (o e : List (List Int)) (b : List Bool) (d : List (List Int)) (h : PlOk o e b d) : CallsV Tryz.prog 23 [.agg [.dat (.i f), .dat (.seq .intss o), .dat (.seq .intss e), .dat (.seq .bools b), .dat (.seq .intss d)]] (.agg [.dat (.i f), .dat (.seq .intss o), .dat (.seq .intss e), .dat (.seq .bools b), .dat (.seq .intss d)]) := by
  refine oV Tryz.func23 ⟨?_⟩
  repeat' (first | ((with_reducible refine fun (K1 : KT) hK => ?_); refine stK ⟨?_⟩) | ((with_reducible show K1 _ _); subst hK; conv => whnf) | (with_reducible exact rfl) | refine st0 ⟨?_⟩ | ((with_reducible refine SplS.mk (fun h => ?_) (fun h => ?_)) <;> first | exact ctP | ((fail_if_success (have _x : @Eq Bool _ _ := h)); subst h; conv => whnf) | (conv => whnf)) | refine stB ⟨?_⟩ ⟨?_⟩ | ((with_reducible first | refine pcI (g := 52) ?_ | show Exists _); refine ⟨_, l_toJobS (hl := ?_) .., rfl, ?_⟩; rotate_right; conv => whnf) | ((with_reducible refine fcI (g := 53) ?_); refine ⟨_, _, lf_toBoolS (hl := ?_) .., rfl, fun res B hRB => ?_⟩; rotate_right; obtain ⟨rfl, rfl⟩ := hRB; conv => whnf) | (intro h; conv => whnf))
  all_goals repeat clear hK K1
  all_goals first | exact h.o | exact h.e | exact h.b | exact h.d | exact True.intro | rfl | skip
theorem l_szJob (a : List Int) (left : Int) (h0 : 0 ≤ left) (h1 : left ≤ 1048576) : CallsV Tryz.prog 84 [.agg [.dat (.seq .ints a)], .dat (.i left)] (.dat (.i (if left - a.length < 0 then -1 else left - a.length))) := by
  refine oV Tryz.func84 ⟨?_⟩
  repeat' (first | ((with_reducible refine fun (K1 : KT) hK => ?_); refine stK ⟨?_⟩) | ((with_reducible show K1 _ _); subst hK; conv => whnf) | (with_reducible exact rfl) | refine st0 ⟨?_⟩ | ((with_reducible refine SplS.mk (fun h => ?_) (fun h => ?_)) <;> first | exact ctP | (subst h; conv => whnf) | (conv => whnf)) | ((with_reducible first | refine pcI (g := 121) ?_ | show Exists _); refine ⟨_, l_szIntS (h0 := ?_) (h1 := ?_) .., rfl, ?_⟩; rotate_right; conv => whnf) | (intro h; conv => whnf))
  all_goals repeat clear hK K1
  all_goals first | (with_reducible assumption) | (refine congrArg Dat.i ?_; split at h <;> split <;> omega) | skip
theorem l_szJobS0 (a : List (List Int)) (left : Int) (h0 : 0 ≤ left) (h1 : left ≤ 1048576) : CallsV Tryz.prog 47 [.dat (.seq .intss a), .dat (.i left)] (.dat (.i (if left - qci a < 0 then -1 else left - qci a))) := by
  refine oV Tryz.func47 ⟨?_⟩
  repeat' (first | ((with_reducible refine fun (K1 : KT) hK => ?_); refine stK ⟨?_⟩) | ((with_reducible show K1 _ _); subst hK; conv => whnf) | (with_reducible exact rfl) | refine st0 ⟨?_⟩ | ((with_reducible refine SplS.mk (fun h => ?_) (fun h => ?_)) <;> first | exact ctP | (subst h; conv => whnf) | (conv => whnf)) | refine stB ⟨?_⟩ ⟨?_⟩ | (refine Exists.intro ({k : Nat // 0 ≤ left - (a.length + ((a.take k).map List.length).sum : Nat)}) (Exists.intro (fun ⟨k, hk⟩ => mkS Tryz.f47.ntmps [(0, .dat (.seq .intss a)), (1, .dat (.i (left - (a.length + ((a.take k).map List.length).sum : Nat)))), (5, .dat (.i k))] []) (Exists.intro (fun ⟨k, hk⟩ => a.length - k) (Exists.intro ⟨0, ?_⟩ (And.intro (SubP.sub (σ := []) ⟨⟨rfl, rfl, rfl⟩, ⟨(qab ?_), (qab ?_), (qab ?_), trivial⟩, trivial⟩) (fun ⟨k, hk⟩ => ?_))))); rotate_right; conv => whnf) | (refine Exists.intro ⟨k + 1, ?_⟩ (And.intro ?_ (SubP.sub (σ := []) ⟨⟨rfl, rfl, rfl⟩, ⟨(qab ?_), (qab ?_), (qab ?_), trivial⟩, trivial⟩))) | ((with_reducible first | refine pcI (g := 84) ?_ | show Exists _); refine ⟨_, l_szJob (h0 := ?_) (h1 := ?_) .., rfl, ?_⟩; rotate_right; conv => whnf) | (intro h; conv => whnf))
  all_goals repeat clear hK K1
  all_goals first | rfl | assumption | exact Bool.noConfusion (h.symm.trans hp) | omega | (dsimp only; omega) | exact congrArg (Dat.int .i64) (qan (by assumption) (by assumption)).symm | (exact congrArg Dat.i (by have hm : maxLen = 9223372036854775807 := rfl; have w1 : IntKind.i64.wrap (left - a.length) = left - a.length := qac omG omG; simp only [w1] at h; unfold qci; split <;> omega)) | (have hm : maxLen = 9223372036854775807 := rfl; have w1 : IntKind.i64.wrap (left - a.length) = left - a.length := qac omG omG; simp only [w1] at h; simp; omega) | (exact congrArg Dat.i (by have hm : maxLen = 9223372036854775807 := rfl; have w1 : IntKind.i64.wrap (left - a.length) = left - a.length := qac omG omG; rw [w1]; simp)) | exact szSS_no (by assumption) h | exact (qmt (by assumption) h).1 | exact congrArg Dat.i (qmt (by assumption) h).2 | exact congrArg Dat.i (szSS_end h hk)
theorem l_szBoolS0 (a : List Bool) (left : Int) (h0 : 0 ≤ left) (h1 : left ≤ 1048576) : CallsV Tryz.prog 48 [.dat (.seq .bools a), .dat (.i left)] (.dat (.i (if left - a.length < 0 then -1 else left - a.length))) := by
  refine oV Tryz.func48 ⟨?_⟩
  repeat' (first | ((with_reducible refine fun (K1 : KT) hK => ?_); refine stK ⟨?_⟩) | ((with_reducible show K1 _ _); subst hK; conv => whnf) | (with_reducible exact rfl) | refine st0 ⟨?_⟩ | ((with_reducible refine SplS.mk (fun h => ?_) (fun h => ?_)) <;> first | exact ctP | ((fail_if_success (have _x : @Eq Bool _ _ := h)); subst h; conv => whnf) | (conv => whnf)) | (intro h; conv => whnf))
  all_goals repeat clear hK K1
  all_goals
    have hm : maxLen = 9223372036854775807 := rfl
    rw [qac omG omG] at *
    simp [h]
theorem l_szJobS (a : List (List Int)) (left : Int) (h0 : 0 ≤ left) (h1 : left ≤ 1048576) : CallsV Tryz.prog 47 [.dat (.seq .intss a), .dat (.i left)] (.dat (.i (szL left (qci a)))) := l_szJobS0 a left h0 h1
theorem l_szBoolS (a : List Bool) (left : Int) (h0 : 0 ≤ left) (h1 : left ≤ 1048576) : CallsV Tryz.prog 48 [.dat (.seq .bools a), .dat (.i left)] (.dat (.i (szL left a.length))) := l_szBoolS0 a left h0 h1
theorem l_szPool (f : Int) (o e : List (List Int)) (b : List Bool) (d : List (List Int)) (left : Int) (h0 : 0 ≤ left) (h1 : left ≤ 1048576) : CallsV Tryz.prog 21 [.agg [.dat (.i f), .dat (.seq .intss o), .dat (.seq .intss e), .dat (.seq .bools b), .dat (.seq .intss d)], .dat (.i left)] (.dat (.i (szPl left o e b d))) := by
  refine oV Tryz.func21 ⟨?_⟩
  repeat' (first | ((with_reducible refine fun (K1 : KT) hK => ?_); refine stK ⟨?_⟩) | ((with_reducible show K1 _ _); subst hK; conv => whnf) | (with_reducible exact rfl) | refine st0 ⟨?_⟩ | ((with_reducible refine SplS.mk (fun h => ?_) (fun h => ?_)) <;> first | exact ctP | ((fail_if_success (have _x : @Eq Bool _ _ := h)); subst h; conv => whnf) | (conv => whnf)) | ((with_reducible first | refine pcI (g := 47) ?_ | show Exists _); refine ⟨_, l_szJobS (h0 := ?_) (h1 := ?_) .., rfl, ?_⟩; rotate_right; conv => whnf) | ((with_reducible first | refine pcI (g := 48) ?_ | show Exists _); refine ⟨_, l_szBoolS (h0 := ?_) (h1 := ?_) .., rfl, ?_⟩; rotate_right; conv => whnf) | (intro h; conv => whnf))
  all_goals repeat clear hK K1
  all_goals first | (with_reducible assumption) | ((with_reducible show (0 : Int) ≤ _); exact Int.not_lt.1 asmR) | ((with_reducible show _ ≤ (1048576 : Int)); first | exact qfe h1 | exact qfe (qfe h1) | exact qfe (qfe (qfe h1))) | (refine congrArg Dat.i ?_; first | exact pl_1 asmR | exact pl_2 asmR | exact pl_3 asmR | exact pl_4 asmR) | rfl | skip
end Vg
