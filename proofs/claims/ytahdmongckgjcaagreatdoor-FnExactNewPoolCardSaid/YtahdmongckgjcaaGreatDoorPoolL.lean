/- Pools in the laws: comparisons, counters written into pools and found again. Condition: lists are no longer than the law lets through. -/
import Derived.Test.YtahdmongckgjcaaGreatDoorTMark
namespace Vg
open Go Go.Proofs
set_option maxRecDepth 100000 in
theorem l_eqJob (a b : List Int) : CallsV Tryz.prog 77 [.agg [.dat (.seq .ints a)], .agg [.dat (.seq .ints b)]] (.dat (.bool (decide (a = b)))) := by
  refine CallsV.of_awp tauOk mixOk Tryz.func77 rfl rfl rfl ?_
  conv => whnf
  repeat' (first
    | ((with_reducible refine fun (K1 : AX → AState → Prop) hK => ?_); conv => whnf)
    | ((with_reducible show K1 _ _); subst hK; conv => whnf)
    | (with_reducible exact rfl)
    | ((with_reducible refine sp_nb (fun h => ?_) (fun h => ?_)) <;> first | contradiction | (exact Bool.noConfusion (Eq.trans (Eq.symm h) (show _ = true by assumption))) | (exact Bool.noConfusion (Eq.trans (Eq.symm (show _ = false by assumption)) h)) | (conv => whnf))
    | (refine ⟨(rfl : nodupB _ = true), rfl, ?_⟩; conv => whnf)
    | ((with_reducible refine pcI (g := 34) ?_); refine ⟨_, l_eqIntS .., rfl, ?_⟩; rotate_right; conv => whnf)
    | ((with_reducible show Exists _); refine Exists.intro _ (And.intro (l_eqIntS ..) (And.intro rfl ?_)); rotate_right; conv => whnf)
    | ((with_reducible show awpOps _ _ _ _ _ _); conv => whnf)
    | (intro h; conv => whnf))
  all_goals (repeat (clear hK; clear K1))
  all_goals first | (simp [*]; done) | skip
set_option maxHeartbeats 2000000 in
set_option maxRecDepth 100000 in
theorem l_l_eqJobS (a b : List (K.T .intss)) : CallsV Tryz.prog 40 [.dat (.seq .intss a), .dat (.seq .intss b)] (.dat (.bool (decide (a = b)))) := by
  refine CallsV.of_awp tauOk mixOk Tryz.func40 rfl rfl rfl ?_
  conv => whnf
  repeat' (first
    | ((with_reducible refine Alt.l ?_); conv => whnf)
    | ((with_reducible refine fun (K1 : AX → AState → Prop) hK => ?_); conv => whnf)
    | ((with_reducible show K1 _ _); subst hK; conv => whnf)
    | (with_reducible exact rfl)
    | ((with_reducible refine sp_d (fun h => ?_) (fun h => ?_)) <;> first | contradiction | (subst h; conv => whnf) | (conv => whnf))
    | ((with_reducible refine sp_n (fun h => ?_) (fun h => ?_)) <;> first | contradiction | (subst h; conv => whnf) | (conv => whnf))
    | ((with_reducible refine sp_nb (fun h => ?_) (fun h => ?_)) <;> first | contradiction | (exact Bool.noConfusion (Eq.trans (Eq.symm h) (show _ = true by assumption))) | (exact Bool.noConfusion (Eq.trans (Eq.symm (show _ = false by assumption)) h)) | (conv => whnf))
    | (refine ⟨(rfl : nodupB _ = true), rfl, ?_⟩; conv => whnf)
    | (with_reducible refine bnd2 ?_ ?_)
    | ((with_reducible refine and_of ?_ ?_); conv => whnf)
    | (refine Exists.intro ({k : Nat // a.take k = b.take k}) (Exists.intro (fun ⟨k, hk⟩ => mkS Tryz.f40.ntmps [(0, .dat (.seq .intss a)), (1, .dat (.seq .intss b)), (5, .dat (.i k))] []) (Exists.intro (fun ⟨k, hk⟩ => a.length - k) (Exists.intro ⟨0, rfl⟩ (And.intro (SubP.sub (σ := []) ⟨⟨rfl, rfl, rfl⟩, ⟨(wk_dat ?_), (wk_dat ?_), (wk_dat ?_), trivial⟩, trivial⟩) (fun ⟨k, hk⟩ => ?_))))); rotate_right; conv => whnf)
    | (refine Exists.intro ⟨k + 1, ?_⟩ (And.intro ?_ (SubP.sub (σ := []) ⟨⟨rfl, rfl, rfl⟩, ⟨(wk_dat ?_), (wk_dat ?_), (wk_dat ?_), trivial⟩, trivial⟩)))
    | ((with_reducible show Exists _); refine Exists.intro _ (And.intro (l_eqJob ..) (And.intro rfl ?_)); rotate_right; conv => whnf)
    | ((with_reducible show awpOps _ _ _ _ _ _); conv => whnf)
    | (intro h; conv => whnf))
  all_goals (repeat (clear hK; clear K1))
  all_goals first
    | rfl
    | assumption
    | exact Bool.noConfusion (h.symm.trans hp)
    | omega
    | (dsimp only; omega)
    | exact congrArg (Dat.int .i64) (wrap_succ (by assumption) (by assumption)).symm
    | exact congrArg Dat.bool (decide_eq_false (fun e => h (by rw [e])))
    | exact take_eq_step (K.dflt .intss) (by assumption) (by omega) hk (of_decide_eq_true h)
    | exact take_eq_step (K.dflt .intss) (by assumption) (by omega) hk h
    | exact congrArg Dat.bool (decide_eq_false (ne_of_getD (of_decide_eq_false h)))
    | exact congrArg Dat.bool (decide_eq_false (ne_of_getD h))
    | exact congrArg Dat.bool (decide_eq_true (take_eq_end (by assumption) (by omega) hk))
set_option maxHeartbeats 2000000 in
set_option maxRecDepth 100000 in
theorem l_l_eqBoolS (a b : List (K.T .bools)) : CallsV Tryz.prog 41 [.dat (.seq .bools a), .dat (.seq .bools b)] (.dat (.bool (decide (a = b)))) := by
  refine CallsV.of_awp tauOk mixOk Tryz.func41 rfl rfl rfl ?_
  conv => whnf
  repeat' (first
    | ((with_reducible refine Alt.l ?_); conv => whnf)
    | ((with_reducible refine fun (K1 : AX → AState → Prop) hK => ?_); conv => whnf)
    | ((with_reducible show K1 _ _); subst hK; conv => whnf)
    | (with_reducible exact rfl)
    | ((with_reducible refine sp_d (fun h => ?_) (fun h => ?_)) <;> first | contradiction | (subst h; conv => whnf) | (conv => whnf))
    | ((with_reducible refine sp_n (fun h => ?_) (fun h => ?_)) <;> first | contradiction | (subst h; conv => whnf) | (conv => whnf))
    | ((with_reducible refine sp_nb (fun h => ?_) (fun h => ?_)) <;> first | contradiction | (exact Bool.noConfusion (Eq.trans (Eq.symm h) (show _ = true by assumption))) | (exact Bool.noConfusion (Eq.trans (Eq.symm (show _ = false by assumption)) h)) | (conv => whnf))
    | (refine ⟨(rfl : nodupB _ = true), rfl, ?_⟩; conv => whnf)
    | (with_reducible refine bnd2 ?_ ?_)
    | ((with_reducible refine and_of ?_ ?_); conv => whnf)
    | (refine Exists.intro ({k : Nat // a.take k = b.take k}) (Exists.intro (fun ⟨k, hk⟩ => mkS Tryz.f41.ntmps [(0, .dat (.seq .bools a)), (1, .dat (.seq .bools b)), (5, .dat (.i k))] []) (Exists.intro (fun ⟨k, hk⟩ => a.length - k) (Exists.intro ⟨0, rfl⟩ (And.intro (SubP.sub (σ := []) ⟨⟨rfl, rfl, rfl⟩, ⟨(wk_dat ?_), (wk_dat ?_), (wk_dat ?_), trivial⟩, trivial⟩) (fun ⟨k, hk⟩ => ?_))))); rotate_right; conv => whnf)
    | (refine Exists.intro ⟨k + 1, ?_⟩ (And.intro ?_ (SubP.sub (σ := []) ⟨⟨rfl, rfl, rfl⟩, ⟨(wk_dat ?_), (wk_dat ?_), (wk_dat ?_), trivial⟩, trivial⟩)))
    | ((with_reducible show awpOps _ _ _ _ _ _); conv => whnf)
    | (intro h; conv => whnf))
  all_goals (repeat (clear hK; clear K1))
  all_goals first
    | rfl
    | assumption
    | exact Bool.noConfusion (h.symm.trans hp)
    | omega
    | (dsimp only; omega)
    | exact congrArg (Dat.int .i64) (wrap_succ (by assumption) (by assumption)).symm
    | exact congrArg Dat.bool (decide_eq_false (fun e => h (by rw [e])))
    | exact take_eq_step (K.dflt .bools) (by assumption) (by omega) hk (of_decide_eq_true h)
    | exact take_eq_step (K.dflt .bools) (by assumption) (by omega) hk h
    | exact congrArg Dat.bool (decide_eq_false (ne_of_getD (of_decide_eq_false h)))
    | exact congrArg Dat.bool (decide_eq_false (ne_of_getD h))
    | exact congrArg Dat.bool (decide_eq_true (take_eq_end (by assumption) (by omega) hk))
structure PoolD where
  fuel : Int
  opn : List (List Int)
  held : List (List Int)
  busy : List Bool
  don : List (List Int)
  deriving DecidableEq
set_option maxRecDepth 100000 in
theorem l_eqPool (f : Int) (o h : List (List Int)) (b : List Bool) (d : List (List Int)) (f' : Int) (o' h' : List (List Int)) (b' : List Bool) (d' : List (List Int)) : CallsV Tryz.prog 14 [.agg [.dat (.i f), .dat (.seq .intss o), .dat (.seq .intss h), .dat (.seq .bools b), .dat (.seq .intss d)], .agg [.dat (.i f'), .dat (.seq .intss o'), .dat (.seq .intss h'), .dat (.seq .bools b'), .dat (.seq .intss d')]] (.dat (.bool (decide ((⟨f, o, h, b, d⟩ : PoolD) = ⟨f', o', h', b', d'⟩)))) := by
  refine CallsV.of_awp tauOk mixOk Tryz.func14 rfl rfl rfl ?_
  conv => whnf
  repeat' (first
    | ((with_reducible refine fun (K1 : AX → AState → Prop) hK => ?_); conv => whnf)
    | ((with_reducible show K1 _ _); subst hK; conv => whnf)
    | (with_reducible exact rfl)
    | ((with_reducible refine sp_n (fun h => ?_) (fun h => ?_)) <;> first | contradiction | (subst h; conv => whnf) | (conv => whnf))
    | ((with_reducible refine sp_nb (fun h => ?_) (fun h => ?_)) <;> first | contradiction | (exact Bool.noConfusion (Eq.trans (Eq.symm h) (show _ = true by assumption))) | (exact Bool.noConfusion (Eq.trans (Eq.symm (show _ = false by assumption)) h)) | (conv => whnf))
    | (refine ⟨(rfl : nodupB _ = true), rfl, ?_⟩; conv => whnf)
    | ((with_reducible refine pcI (g := 40) ?_); refine ⟨_, l_l_eqJobS .., rfl, ?_⟩; rotate_right; conv => whnf)
    | ((with_reducible show Exists _); refine Exists.intro _ (And.intro (l_l_eqJobS ..) (And.intro rfl ?_)); rotate_right; conv => whnf)
    | ((with_reducible refine pcI (g := 41) ?_); refine ⟨_, l_l_eqBoolS .., rfl, ?_⟩; rotate_right; conv => whnf)
    | ((with_reducible show Exists _); refine Exists.intro _ (And.intro (l_l_eqBoolS ..) (And.intro rfl ?_)); rotate_right; conv => whnf)
    | ((with_reducible show awpOps _ _ _ _ _ _); conv => whnf)
    | (intro h; conv => whnf))
  all_goals (repeat (clear hK; clear K1))
  all_goals first
    | (simp [*]; done)
    | skip
def mkB (k : Int) (n : Nat) : List Bool := (List.range n).map fun i => Int.tmod (k + (i : Nat)) 3 == 0
theorem mkB_len (k : Int) (n : Nat) : (mkB k n).length = n := by simp [mkB]
theorem mkB_step {k : Int} {l : List Bool} {i : Nat} (h : (i : Int) < l.length) : (mkB k i ++ l.drop i).set i (Int.tmod (k + (i : Nat)) 3 == 0) = mkB k (i + 1) ++ l.drop (i + 1) := by
  have h' : i < l.length := by omega
  rw [List.set_append_right _ _ (by simp [mkB])]
  simp only [mkB, List.length_map, List.length_range, Nat.sub_self, List.drop_eq_getElem_cons h', List.set_cons_zero, List.range_succ, List.map_append, List.map_cons, List.map_nil, List.append_assoc, List.cons_append, List.nil_append]
theorem mkB_end {k : Int} {l : List Bool} {i : Nat} (h : ¬ (i : Int) < l.length) (hi : i ≤ l.length) : mkB k i ++ l.drop i = mkB k l.length := by
  have : i = l.length := by omega
  subst this; simp
theorem mkB_get {k : Int} {n i : Nat} (d : Bool) (h : (i : Int) < n) : (mkB k n).getD i d = (Int.tmod (k + (i : Nat)) 3 == 0) := by
  have h' : i < n := by omega
  simp [mkB, List.getD_eq_getElem?_getD, h']
set_option maxRecDepth 100000 in
theorem g_markBoolS (l : List Bool) (k : Int) (h0 : 0 ≤ k) (h1 : k ≤ 1099511627776) (hl : l.length ≤ 4194304) : CallsG Tryz.prog 45 [.row 0, .dat (.i k)] [.row 4 .bools l false] 1 (fun res B => res = .dat (.i (k + l.length)) ∧ B = [.row 4 .bools (mkB k l.length) false]) := by
  refine CallsG.of_awp tauOk mixOk Tryz.func45 rfl rfl rfl ?_
  conv => whnf
  repeat' (first
    | ((with_reducible refine fun (K1 : AX → AState → Prop) hK => ?_); conv => whnf)
    | ((with_reducible show K1 _ _); subst hK; conv => whnf)
    | (with_reducible exact rfl)
    | ((with_reducible refine sp_d (fun h => ?_) (fun h => ?_)) <;> first | contradiction | (subst h; conv => whnf) | (conv => whnf))
    | (refine ⟨(rfl : nodupB _ = true), rfl, ?_⟩; conv => whnf)
    | (with_reducible refine bnd2 ?_ ?_)
    | ((with_reducible refine and_of ?_ ?_); conv => whnf)
    | (refine Exists.intro ({i : Nat // i ≤ l.length}) (Exists.intro (fun ⟨i, hi⟩ => mkS Tryz.f45.ntmps [(0, .row 900000), (1, .dat (.i (k + (i : Nat)))), (5, .dat (.i i))] [(900000, .row 4 .bools (mkB k i ++ l.drop i) false)]) (Exists.intro (fun ⟨i, hi⟩ => l.length - i) (Exists.intro ⟨0, Nat.zero_le _⟩ (And.intro (SubP.sub (σ := [(900000, some 900000)]) ⟨⟨rfl, rfl, rfl⟩, ⟨rfl, (wk_dat ?_), (wk_dat ?_), trivial⟩, ⟨⟨⟨rfl, rfl⟩, ?_⟩, trivial⟩⟩) (fun ⟨i, hi⟩ => ?_))))); rotate_right; conv => whnf)
    | (refine Exists.intro ⟨i + 1, ?_⟩ (And.intro ?_ (SubP.sub (σ := [(900000, some 900000)]) ⟨⟨rfl, rfl, rfl⟩, ⟨rfl, (wk_dat ?_), (wk_dat ?_), trivial⟩, ⟨⟨⟨rfl, rfl⟩, ?_⟩, trivial⟩⟩)))
    | ((with_reducible show awpOps _ _ _ _ _ _); conv => whnf)
    | (intro h; conv => whnf))
  all_goals (repeat (clear hK; clear K1))
  all_goals first
    | rfl
    | assumption
    | exact Bool.noConfusion (h.symm.trans hp)
    | omega
    | (dsimp only; omega)
    | exact congrArg (Dat.int .i64) (wrap_succ (by assumption) (by assumption)).symm
    | (simp only [mkB_len, List.length_append, List.length_drop] at h; first | omega | (dsimp only; omega))
    | exact congrArg (Dat.int .i64) (add_succ (n := l.length) (by simp only [mkB_len, List.length_append, List.length_drop] at h; omega) h0 h1 hl).symm
    | exact sig_fin (mkB_step (by simp only [mkB_len, List.length_append, List.length_drop] at h; omega)).symm
    | exact row_fin (mkB_end (by simp only [mkB_len, List.length_append, List.length_drop] at h; omega) hi)
    | exact congrArg (fun x => AV.dat (Dat.i x)) (by simp only [mkB_len, List.length_append, List.length_drop] at h; omega)
    | exact congrArg Dat.i (by simp)
set_option maxRecDepth 100000 in
theorem g_markBoolS0 (k : Int) : CallsV Tryz.prog 45 [.dat (.seq .bools []), .dat (.i k)] (.dat (.i k)) := by
  refine CallsV.of_awp tauOk mixOk Tryz.func45 rfl rfl rfl ?_
  conv => whnf
  repeat' (first
    | ((with_reducible refine fun (K1 : AX → AState → Prop) hK => ?_); conv => whnf)
    | ((with_reducible show K1 _ _); subst hK; conv => whnf)
    | (with_reducible exact rfl)
    | ((with_reducible refine sp_dF ?_ ?_); decide; conv => whnf)
    | (refine ⟨(rfl : nodupB _ = true), rfl, ?_⟩; conv => whnf)
    | (refine Exists.intro (Unit) (Exists.intro (fun _ => mkS Tryz.f45.ntmps [(0, .dat (.seq .bools [])), (1, .dat (.i k)), (5, .dat (.i 0))] []) (Exists.intro (fun _ => 0) (Exists.intro () (And.intro (SubP.sub (σ := []) ⟨⟨rfl, rfl, rfl⟩, ⟨(wk_dat ?_), (wk_dat ?_), (wk_dat ?_), trivial⟩, trivial⟩) (fun _ => ?_))))); rotate_right; conv => whnf)
    | (refine Exists.intro () (And.intro ?_ (SubP.sub (σ := []) ⟨⟨rfl, rfl, rfl⟩, ⟨(wk_dat ?_), (wk_dat ?_), (wk_dat ?_), trivial⟩, trivial⟩)))
    | ((with_reducible show awpOps _ _ _ _ _ _); conv => whnf)
    | (intro h; conv => whnf))
  all_goals (repeat (clear hK; clear K1))
  all_goals first
    | rfl
    | assumption
    | exact Bool.noConfusion (h.symm.trans hp)
    | omega
    | (dsimp only; omega)
set_option maxRecDepth 100000 in
theorem l_heldBoolS (k : Int) (n : Nat) (h0 : 0 ≤ k) (h1 : k ≤ 1099511627776) (hl : n ≤ 4194304) : CallsV Tryz.prog 47 [.dat (.seq .bools (mkB k n)), .dat (.i k)] (.dat (.i (k + n))) := by
  refine CallsV.of_awp tauOk mixOk Tryz.func47 rfl rfl rfl ?_
  conv => whnf
  repeat' (first
    | ((with_reducible refine fun (K1 : AX → AState → Prop) hK => ?_); conv => whnf)
    | ((with_reducible show K1 _ _); subst hK; conv => whnf)
    | (with_reducible exact rfl)
    | ((with_reducible refine sp_d (fun h => ?_) (fun h => ?_)) <;> first | contradiction | (subst h; conv => whnf) | (conv => whnf))
    | ((with_reducible refine sp_nb (fun h => ?_) (fun h => ?_)) <;> first | contradiction | (exact Bool.noConfusion (Eq.trans (Eq.symm h) (show _ = true by assumption))) | (exact Bool.noConfusion (Eq.trans (Eq.symm (show _ = false by assumption)) h)) | (conv => whnf))
    | (refine ⟨(rfl : nodupB _ = true), rfl, ?_⟩; conv => whnf)
    | (with_reducible refine bnd2 ?_ ?_)
    | ((with_reducible refine and_of ?_ ?_); conv => whnf)
    | (refine Exists.intro ({i : Nat // i ≤ n}) (Exists.intro (fun ⟨i, hi⟩ => mkS Tryz.f47.ntmps [(0, .dat (.seq .bools (mkB k n))), (1, .dat (.i (k + (i : Nat)))), (5, .dat (.i i))] []) (Exists.intro (fun ⟨i, hi⟩ => n - i) (Exists.intro ⟨0, Nat.zero_le _⟩ (And.intro (SubP.sub (σ := []) ⟨⟨rfl, rfl, rfl⟩, ⟨(wk_dat ?_), (wk_dat ?_), (wk_dat ?_), trivial⟩, trivial⟩) (fun ⟨i, hi⟩ => ?_))))); rotate_right; conv => whnf)
    | (refine Exists.intro ⟨i + 1, ?_⟩ (And.intro ?_ (SubP.sub (σ := []) ⟨⟨rfl, rfl, rfl⟩, ⟨(wk_dat ?_), (wk_dat ?_), (wk_dat ?_), trivial⟩, trivial⟩)))
    | ((with_reducible show awpOps _ _ _ _ _ _); conv => whnf)
    | (intro h; conv => whnf))
  all_goals (repeat (clear hK; clear K1))
  all_goals first
    | rfl
    | assumption
    | exact Bool.noConfusion (h.symm.trans hp)
    | omega
    | (dsimp only; omega)
    | exact congrArg (Dat.int .i64) (wrap_succ (by assumption) (by assumption)).symm
    | (rename_i hb; rw [mkB_len] at hb; first | omega | (dsimp only; omega) | exact congrArg (Dat.int .i64) (add_succ (n := n) (by omega) h0 h1 hl).symm | exact absurd h (by rw [Int.toNat_natCast, mkB_get _ (by omega)]; simp))
    | (rw [mkB_len] at h; exact congrArg Dat.i (by omega))
    | exact congrArg Dat.i (by simp)
theorem lj_heldIntS (c : List Int) (k : Int) (hc : c = mkI k c.length) (h0 : 0 ≤ k) (h1 : k ≤ 1099511627776) (hl : c.length ≤ 4194304) : CallsV Tryz.prog 79 [.dat (.seq .ints c), .dat (.i k)] (.dat (.i (k + (c.length : Nat)))) := by
  rw [hc, mkI_len]; exact l_heldIntS k c.length h0 h1 hl
set_option maxRecDepth 100000 in
theorem g_markJobS (l : List (List Int)) (k : Int) (h0 : 0 ≤ k) (h1 : k ≤ 8589934592) (hl : totSS l ≤ 1048576) : CallsG Tryz.prog 44 [.row 0, .dat (.i k)] [.tree 61 .intss l] 1 (fun res B => res = .dat (.i (k + (lenTo l l.length : Nat))) ∧ B = [.tree 61 .intss (mkII k l l.length)]) := by
  refine CallsG.of_awp tauOk mixOk Tryz.func44 rfl rfl rfl ?_
  conv => whnf
  repeat' (first
    | ((with_reducible refine fun (K1 : AX → AState → Prop) hK => ?_); conv => whnf)
    | ((with_reducible show K1 _ _); subst hK; conv => whnf)
    | (with_reducible exact rfl)
    | ((with_reducible refine sp_d (fun h => ?_) (fun h => ?_)) <;> first | contradiction | (subst h; conv => whnf) | (conv => whnf))
    | (refine ⟨(rfl : nodupB _ = true), rfl, ?_⟩; conv => whnf)
    | (with_reducible refine bnd2 ?_ ?_)
    | ((with_reducible refine and_of ?_ ?_); conv => whnf)
    | (refine Exists.intro ({i : Nat // i ≤ l.length}) (Exists.intro (fun ⟨i, hi⟩ => mkS Tryz.f44.ntmps [(0, .row 900000), (1, .dat (.i (k + (lenTo l i : Nat)))), (5, .dat (.i i))] [(900000, .tree 61 .intss (mkII k l i ++ l.drop i))]) (Exists.intro (fun ⟨i, hi⟩ => l.length - i) (Exists.intro ⟨0, Nat.zero_le _⟩ (And.intro (SubP.sub (σ := [(900000, some 900000)]) ⟨⟨rfl, rfl, rfl⟩, ⟨rfl, (wk_dat ?_), (wk_dat ?_), trivial⟩, ⟨⟨rfl, ?_⟩, trivial⟩⟩) (fun ⟨i, hi⟩ => ?_))))); rotate_right; conv => whnf)
    | (refine Exists.intro ⟨i + 1, ?_⟩ (And.intro ?_ (SubP.sub (σ := [(900000, some 900000)]) ⟨⟨rfl, rfl, rfl⟩, ⟨rfl, (wk_dat ?_), (wk_dat ?_), trivial⟩, ⟨⟨rfl, ?_⟩, trivial⟩⟩)))
    | ((with_reducible refine mcI (g := 35) ?_); refine ⟨_, g_markIntS (h0 := ?_) (h1 := ?_) (hl := ?_) .., fun res B hRB => ?_⟩; rotate_right; obtain ⟨rfl, rfl⟩ := hRB; conv => whnf)
    | ((with_reducible show awpOps _ _ _ _ _ _); conv => whnf)
    | (intro h; conv => whnf))
  all_goals (repeat (clear hK; clear K1))
  all_goals first
    | rfl
    | assumption
    | exact Bool.noConfusion (h.symm.trans hp)
    | omega
    | (dsimp only; omega)
    | exact congrArg (Dat.int .i64) (wrap_succ (by assumption) (by assumption)).symm
    | (have hb := lt_of_midII (by assumption); first | omega | (dsimp only; omega) | exact sig_fin ((mkII_step hb).symm.trans h.symm) | exact congrArg Dat.i (mkII_cnt hb))
    | (have hb := lenTo_le l i; exact (by omega : k + (lenTo l i : Nat) ≤ 1099511627776))
    | exact mkII_short (lt_of_midII h) hl
    | exact tree_fin (mkII_end h hi)
    | exact congrArg (fun x => AV.dat (Dat.i x)) (by rw [lenTo_end h hi])
    | exact congrArg Dat.i (by simp [lenTo])
set_option maxRecDepth 100000 in
theorem g_markJobS0 (k : Int) : CallsV Tryz.prog 44 [.dat (.seq .intss []), .dat (.i k)] (.dat (.i k)) := by
  refine CallsV.of_awp tauOk mixOk Tryz.func44 rfl rfl rfl ?_
  conv => whnf
  repeat' (first
    | ((with_reducible refine fun (K1 : AX → AState → Prop) hK => ?_); conv => whnf)
    | ((with_reducible show K1 _ _); subst hK; conv => whnf)
    | (with_reducible exact rfl)
    | ((with_reducible refine sp_dF ?_ ?_); decide; conv => whnf)
    | (refine ⟨(rfl : nodupB _ = true), rfl, ?_⟩; conv => whnf)
    | (refine Exists.intro (Unit) (Exists.intro (fun _ => mkS Tryz.f44.ntmps [(0, .dat (.seq .intss [])), (1, .dat (.i k)), (5, .dat (.i 0))] []) (Exists.intro (fun _ => 0) (Exists.intro () (And.intro (SubP.sub (σ := []) ⟨⟨rfl, rfl, rfl⟩, ⟨(wk_dat ?_), (wk_dat ?_), (wk_dat ?_), trivial⟩, trivial⟩) (fun _ => ?_))))); rotate_right; conv => whnf)
    | (refine Exists.intro () (And.intro ?_ (SubP.sub (σ := []) ⟨⟨rfl, rfl, rfl⟩, ⟨(wk_dat ?_), (wk_dat ?_), (wk_dat ?_), trivial⟩, trivial⟩)))
    | ((with_reducible show awpOps _ _ _ _ _ _); conv => whnf)
    | (intro h; conv => whnf))
  all_goals (repeat (clear hK; clear K1))
  all_goals first
    | rfl
    | assumption
    | exact Bool.noConfusion (h.symm.trans hp)
    | omega
    | (dsimp only; omega)
theorem mkII_get {k : Int} {l : List (List Int)} {n i : Nat} (h : (i : Int) < n) : (mkII k l n).getD i K.intss.dflt = mkI (k + (lenTo l i : Nat)) (l.getD i []).length := by
  have h' : i < n := by omega
  simp [mkII, List.getD_eq_getElem?_getD, h']
set_option maxRecDepth 100000 in
theorem l_heldJobS (l : List (List Int)) (k : Int) (h0 : 0 ≤ k) (h1 : k ≤ 8589934592) (hl : totSS l ≤ 1048576) : CallsV Tryz.prog 46 [.dat (.seq .intss (mkII k l l.length)), .dat (.i k)] (.dat (.i (k + (lenTo l l.length : Nat)))) := by
  refine CallsV.of_awp tauOk mixOk Tryz.func46 rfl rfl rfl ?_
  conv => whnf
  repeat' (first
    | ((with_reducible refine fun (K1 : AX → AState → Prop) hK => ?_); conv => whnf)
    | ((with_reducible show K1 _ _); subst hK; conv => whnf)
    | (with_reducible exact rfl)
    | ((with_reducible refine sp_d (fun h => ?_) (fun h => ?_)) <;> first | contradiction | (subst h; conv => whnf) | (conv => whnf))
    | (refine ⟨(rfl : nodupB _ = true), rfl, ?_⟩; conv => whnf)
    | (with_reducible refine bnd2 ?_ ?_)
    | ((with_reducible refine and_of ?_ ?_); conv => whnf)
    | (refine Exists.intro ({i : Nat // i ≤ l.length}) (Exists.intro (fun ⟨i, hi⟩ => mkS Tryz.f46.ntmps [(0, .dat (.seq .intss (mkII k l l.length))), (1, .dat (.i (k + (lenTo l i : Nat)))), (5, .dat (.i i))] []) (Exists.intro (fun ⟨i, hi⟩ => l.length - i) (Exists.intro ⟨0, Nat.zero_le _⟩ (And.intro (SubP.sub (σ := []) ⟨⟨rfl, rfl, rfl⟩, ⟨(wk_dat ?_), (wk_dat ?_), (wk_dat ?_), trivial⟩, trivial⟩) (fun ⟨i, hi⟩ => ?_))))); rotate_right; conv => whnf)
    | (refine Exists.intro (⟨i + 1, ?_⟩ : {i : Nat // i ≤ l.length}) (And.intro ?_ (SubP.sub (σ := []) ⟨⟨rfl, rfl, rfl⟩, ⟨(wk_dat ?_), (wk_dat ?_), (wk_dat ?_), trivial⟩, trivial⟩)))
    | ((with_reducible refine pcI (g := 79) ?_); refine ⟨_, lj_heldIntS (hc := ?_) (h0 := ?_) (h1 := ?_) (hl := ?_) .., rfl, ?_⟩; rotate_right; conv => whnf)
    | ((with_reducible show Exists _); refine Exists.intro _ (And.intro (lj_heldIntS (hc := ?_) (h0 := ?_) (h1 := ?_) (hl := ?_) ..) (And.intro rfl ?_)); rotate_right; conv => whnf)
    | ((with_reducible show awpOps _ _ _ _ _ _); conv => whnf)
    | (intro h; conv => whnf))
  all_goals (repeat (clear hK; clear K1))
  all_goals first
    | ((with_reducible show (_ : Int) ≤ _); have hb := lenTo_le l i; omega)
    | ((with_reducible show (_ : Int) < _); simp only [mkII_len] at *; omega)
    | (have q := (show (i : Int) < ((mkII k l l.length).length : Nat) by with_reducible assumption); rw [mkII_len] at q; first
        | omega
        | ((with_reducible show (_ : Nat) < _); (dsimp only; omega))
        | exact congrArg (Dat.int .i64) (wrap_succ (m := (mkII k l l.length).length) (by with_reducible assumption) (by with_reducible assumption)).symm
        | ((with_reducible show _ = mkI _ _); rw [Int.toNat_natCast, mkII_get q, mkI_len])
        | (refine congrArg Dat.i ?_; rw [Int.toNat_natCast, mkII_get q, mkI_len, lenTo_step q]; omega)
        | ((with_reducible show _ ≤ _); rw [Int.toNat_natCast, mkII_get q, mkI_len]; have h1 := len_le q; unfold totSS at hl; omega)
        | (exfalso; have hb := lenTo_le l (i + 1); rw [Int.toNat_natCast, mkII_get q, mkI_len] at *; omega)
        | (exfalso; omega))
    | (have q := (show ¬ (i : Int) < ((mkII k l l.length).length : Nat) by with_reducible assumption); rw [mkII_len] at q; exact congrArg Dat.i (by rw [show i = l.length by omega]))
    | exact congrArg Dat.i (by simp [lenTo])
    | rfl
    | skip
end Vg
