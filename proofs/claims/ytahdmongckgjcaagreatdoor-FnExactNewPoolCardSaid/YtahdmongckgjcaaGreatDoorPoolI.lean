/- Pools: contracts of the program's PoolOk. Condition: lists are no longer than the law lets through. -/
import Derived.Test.YtahdmongckgjcaaGreatDoorPathW
namespace Vg
open Go Go.Proofs
/-! ### pools in plain words -/
def busyTo (h : List (List Int)) (b : List Bool) : Nat → List (List Int)
  | 0 => []
  | k + 1 => busyTo h b k ++ (if b.getD k K.bools.dflt = true then [h.getD k K.intss.dflt] else [])
def allJ (o h : List (List Int)) (b : List Bool) (d : List (List Int)) : List (List Int) := o ++ busyTo h b h.length ++ d
def idleTo (h : List (List Int)) (b : List Bool) : Nat → Bool
  | 0 => true
  | k + 1 => idleTo h b k && (b.getD k K.bools.dflt || decide ((h.getD k K.intss.dflt).length = 0))
noncomputable def jobOk (p : V.Prog) (fuel : Int) (j : List Int) : Bool := turnsP j && decide ((pwF p j fuel.toNat (startP p) 0).2 = j.length)
noncomputable def forkB (p : V.Prog) (fuel : Int) (j : List Int) : Bool := decide ((pwF p (j ++ [1]) fuel.toNat (startP p) 0).2 = (j ++ [1]).length)
structure PoolIs (p : V.Prog) (f : Int) (o h : List (List Int)) (b : List Bool) (d : List (List Int)) : Prop where
  hp : progP p = true
  hf : inP f 0 400 = true
  hb : 1 ≤ b.length ∧ b.length ≤ 4
  hh : h.length = b.length
  idle : idleTo h b h.length = true
  al : (allJ o h b d).length ≤ 64
  jobs : (allJ o h b d).all (jobOk p f) = true
  don : d.all (fun j => !forkB p f j) = true
  nod : (allJ o h b d).Nodup
noncomputable def poolP (p : V.Prog) (f : Int) (o h : List (List Int)) (b : List Bool) (d : List (List Int)) : Bool := @decide (PoolIs p f o h b d) (Classical.propDecidable _)
theorem pool_y {p : V.Prog} {f : Int} {o h : List (List Int)} {b : List Bool} {d : List (List Int)} (q : PoolIs p f o h b d) : poolP p f o h b d = true := @decide_eq_true _ (Classical.propDecidable _) q
theorem pool_n {p : V.Prog} {f : Int} {o h : List (List Int)} {b : List Bool} {d : List (List Int)} (q : ¬ PoolIs p f o h b d) : poolP p f o h b d = false := @decide_eq_false _ (Classical.propDecidable _) q
theorem busy_len (h : List (List Int)) (b : List Bool) : ∀ n, (busyTo h b n).length ≤ n
  | 0 => Nat.le_refl _
  | n + 1 => by
    have := busy_len h b n
    rw [busyTo, List.length_append]
    split <;> simp <;> omega
set_option maxRecDepth 100000 in
theorem i_Equal (a b : List Int) : CallsV Tryz.prog 109 [.dat (.seq .ints a), .dat (.seq .ints b)] (.dat (.bool (decide (a = b)))) := by
  refine CallsV.of_awp tauOk mixOk Tryz.func109 rfl rfl rfl ?_
  conv => whnf
  repeat' (first
    | ((with_reducible refine fun (K1 : AX → AState → Prop) hK => ?_); (with_reducible refine awp_rg ?_ ?_); exact rfl; conv => whnf)
    | ((with_reducible refine Alt.l ?_); conv => whnf)
    | ((with_reducible refine fun (K1 : AX → AState → Prop) hK => ?_); conv => whnf)
    | ((with_reducible show K1 _ _); subst hK; conv => whnf)
    | (with_reducible exact rfl)
    | ((with_reducible refine sp_d (fun h => ?_) (fun h => ?_)) <;> first | contradiction | (subst h; conv => whnf) | (conv => whnf))
    | ((with_reducible refine sp_n (fun h => ?_) (fun h => ?_)) <;> first | contradiction | (subst h; conv => whnf) | (conv => whnf))
    | (refine ⟨(rfl : nodupB _ = true), rfl, ?_⟩; conv => whnf)
    | (with_reducible refine bnd2 ?_ ?_)
    | ((with_reducible refine and_of ?_ ?_); conv => whnf)
    | (refine Exists.intro ({k : Nat // a.take k = b.take k}) (Exists.intro (fun ⟨k, hk⟩ => mkS Tryz.f109.ntmps [(0, .dat (.seq .ints a)), (1, .dat (.seq .ints b)), (12, .dat (.i a.length)), (13, .dat (.i k))] []) (Exists.intro (fun ⟨k, hk⟩ => a.length - k) (Exists.intro ⟨0, rfl⟩ (And.intro (SubP.sub (σ := []) ⟨⟨rfl, rfl, rfl⟩, ⟨(wk_dat ?_), (wk_dat ?_), (wk_dat ?_), (wk_dat ?_), trivial⟩, trivial⟩) (fun ⟨k, hk⟩ => ?_))))); rotate_right; conv => whnf)
    | (refine Exists.intro ⟨k + 1, ?_⟩ (And.intro ?_ (SubP.sub (σ := []) ⟨⟨rfl, rfl, rfl⟩, ⟨(wk_dat ?_), (wk_dat ?_), (wk_dat ?_), (wk_dat ?_), trivial⟩, trivial⟩)))
    | ((with_reducible show awpOps _ _ _ _ _ _); conv => whnf)
    | (intro h; conv => whnf))
  all_goals (repeat (clear hK; clear K1))
  all_goals first
    | rfl
    | assumption
    | exact Bool.noConfusion (h.symm.trans hp)
    | omega
    | (dsimp only; omega)
    | exact congrArg (Dat.int .i64) (wrap_succ (by assumption) (by assumption)).symm
    | exact congrArg Dat.bool (decide_eq_false (fun e => h (by rw [e])))
    | exact take_eq_step (K.dflt .ints) (by assumption) (by omega) hk (of_decide_eq_true h)
    | exact take_eq_step (K.dflt .ints) (by assumption) (by omega) hk h
    | exact congrArg Dat.bool (decide_eq_true (take_eq_end (by assumption) (by omega) hk))
set_option maxRecDepth 100000 in
theorem i_sameJob (x y : List Int) : CallsV Tryz.prog 89 [.agg [.dat (.seq .ints x)], .agg [.dat (.seq .ints y)]] (.dat (.bool (decide (x = y)))) := by
  refine CallsV.of_awp tauOk mixOk Tryz.func89 rfl rfl rfl ?_
  conv => whnf
  repeat' (first
    | ((with_reducible refine fun (K1 : AX → AState → Prop) hK => ?_); (with_reducible refine awp_rg ?_ ?_); exact rfl; conv => whnf)
    | ((with_reducible refine fun (K1 : AX → AState → Prop) hK => ?_); conv => whnf)
    | ((with_reducible show K1 _ _); subst hK; conv => whnf)
    | (with_reducible exact rfl)
    | (refine ⟨(rfl : nodupB _ = true), rfl, ?_⟩; conv => whnf)
    | ((with_reducible refine pcI (g := 109) ?_); refine ⟨_, i_Equal .., rfl, ?_⟩; rotate_right; conv => whnf)
    | ((with_reducible show Exists _); refine Exists.intro _ (And.intro (i_Equal ..) (And.intro rfl ?_)); rotate_right; conv => whnf)
    | ((with_reducible show awpOps _ _ _ _ _ _); conv => whnf)
    | (intro h; conv => whnf))
  all_goals (repeat (clear hK; clear K1))
  all_goals first | rfl | skip
set_option maxRecDepth 100000 in
theorem i_fuelOk (n : Int) : CallsV Tryz.prog 57 [.dat (.i n)] (.dat (.bool (inP n 0 400))) := by
  refine CallsV.of_awp tauOk mixOk Tryz.func57 rfl rfl rfl ?_
  conv => whnf
  repeat' (first
    | ((with_reducible refine fun (K1 : AX → AState → Prop) hK => ?_); (with_reducible refine awp_rg ?_ ?_); exact rfl; conv => whnf)
    | ((with_reducible refine fun (K1 : AX → AState → Prop) hK => ?_); conv => whnf)
    | ((with_reducible show K1 _ _); subst hK; conv => whnf)
    | (with_reducible exact rfl)
    | ((with_reducible refine sp_T ?_); conv => whnf)
    | ((with_reducible refine sp_F ?_); conv => whnf)
    | ((with_reducible refine sp_d (fun h => ?_) (fun h => ?_)) <;> first | contradiction | (subst h; conv => whnf) | (conv => whnf))
    | (refine ⟨(rfl : nodupB _ = true), rfl, ?_⟩; conv => whnf)
    | ((with_reducible show awpOps _ _ _ _ _ _); conv => whnf)
    | (intro h; conv => whnf))
  all_goals (repeat (clear hK; clear K1))
  all_goals first | (refine congrArg Dat.bool ?_; unfold inP; simp [*]; done) | (refine congrArg Dat.bool ?_; unfold inP; rw [Bool.eq_iff_iff]; simp; omega) | skip
set_option maxRecDepth 100000 in
theorem i_atFork (w mem inn : Int) (code : List V.Ins) (j : List Int) (fuel : Int) (hp : progP ⟨w, mem, inn, code⟩ = true) (ht : turnsP j = true) (hf : 0 ≤ fuel) (hf2 : fuel ≤ 400) (hj : j.length ≤ 1000000) : CallsV Tryz.prog 61 [.agg [.dat (.i w), .dat (.i mem), .dat (.i inn), .dat (.seq .inss code)], .agg [.dat (.seq .ints j)], .dat (.i fuel)] (.dat (.bool (forkB ⟨w, mem, inn, code⟩ fuel j))) := by
  refine CallsV.of_awp tauOk mixOk Tryz.func61 rfl rfl rfl ?_
  conv => whnf
  repeat' (first
    | ((with_reducible refine fun (K1 : AX → AState → Prop) hK => ?_); (with_reducible refine awp_rg ?_ ?_); exact rfl; conv => whnf)
    | ((with_reducible refine fun (K1 : AX → AState → Prop) hK => ?_); (with_reducible refine awp_dw ?_ ?_); exact rfl; (conv => whnf); simp only [List.nil_append, List.cons_append])
    | ((with_reducible refine WRun_nil ?_); conv => whnf)
    | ((with_reducible refine WRun_go ?_ ?_); exact rfl; conv => whnf)
    | ((with_reducible refine WRun_skip ?_ ?_); exact rfl)
    | ((with_reducible refine WAg_nil ?_))
    | ((with_reducible refine WAg_go ?_ ?_); exact rfl; conv => whnf)
    | ((with_reducible refine WAg_skip ?_ ?_); exact rfl)
    | ((with_reducible refine WR_end ?_ ?_); exact rfl; conv => whnf)
    | ((with_reducible show WR _ _ _ _ _ _ _ _ _); refine WR_go rfl ?_)
    | ((with_reducible show WEach _ _); refine WEach_one rfl ?_; conv => whnf)
    | ((with_reducible show WEach _ _); refine WEach_more rfl ?_ ?_; conv => whnf)
    | ((with_reducible refine fun (K1 : AX → AState → Prop) hK => ?_); conv => whnf)
    | ((with_reducible show K1 _ _); subst hK; conv => whnf)
    | (with_reducible exact rfl)
    | (refine ⟨(rfl : nodupB _ = true), rfl, ?_⟩; conv => whnf)
    | ((with_reducible refine and_of ?_ ?_); conv => whnf)
    | ((with_reducible refine pcI (g := 60) ?_); refine ⟨_, i_pathWith (hp := ?_) (ht := ?_) (hf := ?_) (hf2 := ?_) .., rfl, ?_⟩; rotate_right; conv => whnf)
    | ((with_reducible show Exists _); refine Exists.intro _ (And.intro (i_pathWith (hp := ?_) (ht := ?_) (hf := ?_) (hf2 := ?_) ..) (And.intro rfl ?_)); rotate_right; conv => whnf)
    | ((with_reducible refine pcI (g := 88) ?_); refine ⟨_, i_with (h1 := ?_) .., rfl, ?_⟩; rotate_right; conv => whnf)
    | ((with_reducible show Exists _); refine Exists.intro _ (And.intro (i_with (h1 := ?_) ..) (And.intro rfl ?_)); rotate_right; conv => whnf)
    | ((with_reducible show awpOps _ _ _ _ _ _); conv => whnf)
    | (intro h; conv => whnf))
  all_goals (repeat (clear hK; clear K1))
  all_goals first
    | (with_reducible assumption)
    | exact rfl
    | (unfold turnsP at *; rw [List.all_append, ht]; rfl)
    | skip
set_option maxHeartbeats 4000000 in
set_option maxRecDepth 100000 in
theorem i_allJobs (f : Int) (o e : List (List Int)) (b : List Bool) (d : List (List Int)) (ho : o.length ≤ 1000) (he : e.length ≤ 1000) (hb : e.length ≤ b.length) (hd : d.length ≤ 1000) : CallsV Tryz.prog 58 [.agg [.dat (.i f), .dat (.seq .intss o), .dat (.seq .intss e), .dat (.seq .bools b), .dat (.seq .intss d)]] (.dat (.seq .intss (allJ o e b d))) := by
  refine CallsV.of_awp tauOk mixOk Tryz.func58 rfl rfl rfl ?_
  conv => whnf
  repeat' (first
    | ((with_reducible refine fun (K1 : AX → AState → Prop) hK => ?_); (with_reducible refine awp_rg ?_ ?_); exact rfl; conv => whnf)
    | ((with_reducible refine Alt.l ?_); conv => whnf)
    | ((with_reducible refine fun (K1 : AX → AState → Prop) hK => ?_); conv => whnf)
    | ((with_reducible show K1 _ _); subst hK; conv => whnf)
    | (with_reducible exact rfl)
    | ((with_reducible refine sp_d (fun h => ?_) (fun h => ?_)) <;> first | contradiction | (subst h; conv => whnf) | (conv => whnf))
    | ((with_reducible refine sp_b (fun h => ?_) (fun h => ?_)) <;> first | (exact Bool.noConfusion (Eq.trans (Eq.symm h) (show _ = true by with_reducible assumption))) | (exact Bool.noConfusion (Eq.trans (Eq.symm (show _ = false by with_reducible assumption)) h)) | (conv => whnf))
    | (refine ⟨(rfl : nodupB _ = true), rfl, ?_⟩; conv => whnf)
    | (with_reducible refine bnd2 ?_ ?_)
    | (with_reducible refine bndN ?_ ?_)
    | ((with_reducible refine and_of ?_ ?_); conv => whnf)
    | (refine Exists.intro ({k : Nat // k ≤ e.length}) (Exists.intro (fun ⟨k, hk⟩ => mkS Tryz.f58.ntmps [(1, .ptr 1 0), (3, .row 3), (11, .dat (.seq .intss e)), (12, .dat (.i e.length)), (13, .dat (.i k))] [(1, .box [.dat (.i f), .dat (.seq .intss o), .dat (.seq .intss e), .dat (.seq .bools b), .dat (.seq .intss d)]), (3, .row 61 .intss (o ++ busyTo e b k) false)]) (Exists.intro (fun ⟨k, hk⟩ => e.length - k) (Exists.intro ⟨0, Nat.zero_le _⟩ (And.intro (SubP.sub (σ := [(1, some 1), (3, some 9)]) ⟨⟨rfl, rfl, rfl⟩, ⟨⟨rfl, rfl⟩, rfl, (wk_dat ?_), (wk_dat ?_), (wk_dat ?_), trivial⟩, ⟨⟨(wkC_dat ?_), (wkC_dat ?_), (wkC_dat ?_), (wkC_dat ?_), (wkC_dat ?_), trivial⟩, ⟨⟨rfl, rfl⟩, ?_⟩, trivial⟩⟩) (fun ⟨k, hk⟩ => ?_))))); rotate_right; conv => whnf)
    | (refine Exists.intro (⟨k + 1, ?_⟩ : {k : Nat // k ≤ e.length}) (And.intro ?_ (SubP.sub (σ := [(1, some 1), (3, some 26)]) ⟨⟨rfl, rfl, rfl⟩, ⟨⟨rfl, rfl⟩, rfl, (wk_dat ?_), (wk_dat ?_), (wk_dat ?_), trivial⟩, ⟨⟨(wkC_dat ?_), (wkC_dat ?_), (wkC_dat ?_), (wkC_dat ?_), (wkC_dat ?_), trivial⟩, ⟨⟨rfl, rfl⟩, ?_⟩, trivial⟩⟩)))
    | (refine Exists.intro (⟨k + 1, ?_⟩ : {k : Nat // k ≤ e.length}) (And.intro ?_ (SubP.sub (σ := [(1, some 1), (3, some 3)]) ⟨⟨rfl, rfl, rfl⟩, ⟨⟨rfl, rfl⟩, rfl, (wk_dat ?_), (wk_dat ?_), (wk_dat ?_), trivial⟩, ⟨⟨(wkC_dat ?_), (wkC_dat ?_), (wkC_dat ?_), (wkC_dat ?_), (wkC_dat ?_), trivial⟩, ⟨⟨rfl, rfl⟩, ?_⟩, trivial⟩⟩)))
    | ((with_reducible show awpOps _ _ _ _ _ _); conv => whnf)
    | (intro h; conv => whnf))
  all_goals (repeat (clear hK; clear K1))
  all_goals (have hbl := busy_len e b)
  all_goals first
    | exact True.intro
    | ((with_reducible show (_ : Int) ≤ _); omega)
    | ((with_reducible show (_ : Int) < _); omega)
    | ((with_reducible show (_ : Nat) < _); (dsimp only; omega))
    | exact congrArg (Dat.int .i64) (wrap_succ (by with_reducible assumption) (by with_reducible assumption)).symm
    | exact rfl
    | (refine congrArg (Sigma.mk K.intss) ?_; rw [busyTo, if_pos (by have q := (by with_reducible assumption : b.getD (k : Int).toNat K.bools.dflt = true); rw [Int.toNat_natCast] at q; exact q), ← List.append_assoc]; exact rfl)
    | (refine congrArg (Sigma.mk K.intss) ?_; rw [busyTo, if_neg (by have q := (by with_reducible assumption : b.getD (k : Int).toNat K.bools.dflt = false); rw [Int.toNat_natCast] at q; rw [q]; decide), List.append_nil])
    | (refine congrArg (Sigma.mk K.intss) ?_; show o ++ [] = o; rw [List.append_nil])
    | (have h1 := hbl k; (first | show ((o ++ busyTo e b k).length + 1) * 24 ≤ _ | show (o ++ busyTo e b k).length + 1 ≤ 2 ^ 63 - 1 | show ((o ++ busyTo e b k).length + d.length) * 24 ≤ _ | show (o ++ busyTo e b k).length + d.length ≤ 2 ^ 63 - 1); rw [List.length_append]; omega)
    | ((first | show o.length * 24 ≤ _ | show o.length ≤ 2 ^ 63 - 1); omega)
    | (obtain rfl : k = e.length := (by omega); exact rfl)
    | ((with_reducible show _ ≤ _); omega)
    | skip
structure NdK (l : List (List Int)) (i k : Nat) : Prop where
  kl : k ≤ i
  il : i < l.length
  ni : l.getD i K.intss.dflt ∉ l.take k
structure NdI (l : List (List Int)) (i : Nat) : Prop where
  il : i ≤ l.length
  nd : (l.take i).Nodup
section
variable {l : List (List Int)} {i k : Nat}
theorem ss_get (h : k < l.length) : l.getD k K.intss.dflt = l[k] := by
  rw [List.getD_eq_getElem?_getD, List.getElem?_eq_getElem h]; rfl
theorem nd_0 : NdI l 0 := ⟨Nat.zero_le _, by rw [List.take_zero]; exact List.nodup_nil⟩
theorem nk_0 (h : (i : Int) < l.length) : NdK l i 0 := ⟨Nat.zero_le _, by omega, by rw [List.take_zero]; exact List.not_mem_nil⟩
theorem nk_s (h : NdK l i k) (hk : (k : Int) < i) (hn : ¬ l.getD (i : Int).toNat K.intss.dflt = l.getD (k : Int).toNat K.intss.dflt) : NdK l i (k + 1) := by
  have h1 := h.il
  refine ⟨by omega, h1, fun q => ?_⟩
  rw [List.take_succ_eq_append_getElem (show k < l.length by omega), List.mem_append, List.mem_singleton] at q
  rcases q with q | q
  · exact h.ni q
  · rw [Int.toNat_natCast, Int.toNat_natCast, ss_get (show k < l.length by omega)] at hn
    exact hn q
theorem ni_s (h0 : NdI l i) (h : NdK l i k) (hk : ¬ (k : Int) < i) : NdI l (i + 1) := by
  have h1 := h.il
  have h2 := h.kl
  obtain rfl : k = i := by omega
  refine ⟨by omega, ?_⟩
  rw [List.take_succ_eq_append_getElem h1, List.nodup_append]
  refine ⟨h0.nd, by simp, fun a ha b hb e => ?_⟩
  rw [List.mem_singleton] at hb
  subst hb e
  exact h.ni (by rw [ss_get h1]; exact ha)
theorem nd_n (h : NdK l i k) (hk : (k : Int) < i) (he : l.getD (i : Int).toNat K.intss.dflt = l.getD (k : Int).toNat K.intss.dflt) : ¬ l.Nodup := by
  intro q
  have h1 := h.il
  rw [Int.toNat_natCast, Int.toNat_natCast, ss_get h1, ss_get (show k < l.length by omega)] at he
  have hki : k < i := by omega
  exact List.pairwise_iff_getElem.1 q k i (by omega) h1 hki he.symm
theorem nd_y (h : NdI l i) (hi : ¬ (i : Int) < l.length) : l.Nodup := by
  have := h.nd
  rwa [List.take_of_length_le (by omega)] at this
end
set_option maxRecDepth 100000 in
theorem i_allDifferent (l : List (List Int)) : CallsV Tryz.prog 62 [.dat (.seq .intss l)] (.dat (.bool (decide l.Nodup))) := by
  refine CallsV.of_awp tauOk mixOk Tryz.func62 rfl rfl rfl ?_
  conv => whnf
  repeat' (first
    | ((with_reducible refine fun (K1 : AX → AState → Prop) hK => ?_); (with_reducible refine awp_rg ?_ ?_); exact rfl; conv => whnf)
    | ((with_reducible refine Alt.l ?_); conv => whnf)
    | ((with_reducible refine fun (K1 : AX → AState → Prop) hK => ?_); conv => whnf)
    | ((with_reducible show K1 _ _); subst hK; conv => whnf)
    | (with_reducible exact rfl)
    | ((with_reducible refine sp_d (fun h => ?_) (fun h => ?_)) <;> first | contradiction | (subst h; conv => whnf) | (conv => whnf))
    | (refine ⟨(rfl : nodupB _ = true), rfl, ?_⟩; conv => whnf)
    | (with_reducible refine bnd2 ?_ ?_)
    | ((with_reducible refine and_of ?_ ?_); conv => whnf)
    | (refine Exists.intro ({k : Nat // NdK l i k}) (Exists.intro (fun ⟨k, hk⟩ => mkS Tryz.f62.ntmps [(0, .dat (.seq .intss l)), (3, .dat (.i i)), (5, .dat (.seq .intss l)), (6, .dat (.i l.length)), (7, .dat (.i i)), (10, .dat (.i i)), (11, .dat (.i k))] []) (Exists.intro (fun ⟨k, hk⟩ => i - k) (Exists.intro ⟨0, ?_⟩ (And.intro (SubP.sub (σ := []) ⟨⟨rfl, rfl, rfl⟩, ⟨(wk_dat ?_), (wk_dat ?_), (wk_dat ?_), (wk_dat ?_), (wk_dat ?_), (wk_dat ?_), (wk_dat ?_), trivial⟩, trivial⟩) (fun ⟨k, hk⟩ => ?_))))); rotate_right; conv => whnf)
    | (refine Exists.intro (⟨k + 1, ?_⟩ : {k : Nat // NdK l i k}) (And.intro ?_ (SubP.sub (σ := []) ⟨⟨rfl, rfl, rfl⟩, ⟨(wk_dat ?_), (wk_dat ?_), (wk_dat ?_), (wk_dat ?_), (wk_dat ?_), (wk_dat ?_), (wk_dat ?_), trivial⟩, trivial⟩)))
    | (refine Exists.intro ({i : Nat // NdI l i}) (Exists.intro (fun ⟨i, hi⟩ => mkS Tryz.f62.ntmps [(0, .dat (.seq .intss l)), (5, .dat (.seq .intss l)), (6, .dat (.i l.length)), (7, .dat (.i i))] []) (Exists.intro (fun ⟨i, hi⟩ => l.length - i) (Exists.intro ⟨0, ?_⟩ (And.intro (SubP.sub (σ := []) ⟨⟨rfl, rfl, rfl⟩, ⟨(wk_dat ?_), (wk_dat ?_), (wk_dat ?_), (wk_dat ?_), trivial⟩, trivial⟩) (fun ⟨i, hi⟩ => ?_))))); rotate_right; conv => whnf)
    | (refine Exists.intro (⟨i + 1, ?_⟩ : {i : Nat // NdI l i}) (And.intro ?_ (SubP.sub (σ := []) ⟨⟨rfl, rfl, rfl⟩, ⟨(wk_dat ?_), (wk_dat ?_), (wk_dat ?_), (wk_dat ?_), trivial⟩, trivial⟩)))
    | ((with_reducible show Exists _); refine Exists.intro _ (And.intro (i_sameJob ..) (And.intro rfl ?_)); rotate_right; conv => whnf)
    | ((with_reducible show awpOps _ _ _ _ _ _); conv => whnf)
    | (intro h; conv => whnf))
  all_goals (repeat (clear hK; clear K1))
  all_goals first
    | exact True.intro
    | (with_reducible exact nd_0)
    | (with_reducible exact nk_0 (by with_reducible assumption))
    | (with_reducible exact nk_s hk (by with_reducible assumption) (by with_reducible assumption))
    | (with_reducible exact ni_s hi hk (by with_reducible assumption))
    | exact congrArg Dat.bool (decide_eq_false (nd_n hk (by with_reducible assumption) (by with_reducible assumption)))
    | exact congrArg Dat.bool (decide_eq_true (nd_y hi (by with_reducible assumption)))
    | ((with_reducible show (_ : Int) ≤ _); omega)
    | ((with_reducible show (_ : Int) < _); have q := hk.il; omega)
    | ((with_reducible show (_ : Int) < _); omega)
    | ((with_reducible show (_ : Nat) < _); (dsimp only; omega))
    | exact rfl
    | exact congrArg (Dat.int .i64) (wrap_succ (by with_reducible assumption) (by with_reducible assumption)).symm
    | (have q := hk.il; exact congrArg (Dat.int .i64) (wrap_succ (m := l.length) (by omega) (by with_reducible assumption)).symm)
    | skip
theorem all_job {p : V.Prog} {f : Int} {l : List (List Int)} {k : Nat} (hall : (l.take k).all (jobOk p f) = true) (h : (k : Int) < l.length) (h1 : turnsP (l.getD (k : Int).toNat K.intss.dflt) = true)
    (h2 : (pwF p (l.getD (k : Int).toNat K.intss.dflt) f.toNat (startP p) 0).2 = List.length (l.getD (k : Int).toNat K.intss.dflt)) : (l.take (k + 1)).all (jobOk p f) = true := by
  rw [Int.toNat_natCast] at h1 h2
  rw [all_step K.intss.dflt h, hall, Bool.true_and]
  unfold jobOk
  rw [h1, decide_eq_true h2]; rfl
theorem no_job1 {p : V.Prog} {f : Int} {l : List (List Int)} {k : Nat} (h : (k : Int) < l.length) (h1 : turnsP (l.getD (k : Int).toNat K.intss.dflt) = false) : l.all (jobOk p f) = false := by
  rw [Int.toNat_natCast] at h1
  exact all_no (d := K.intss.dflt) h (by unfold jobOk; rw [h1]; rfl)
theorem no_job2 {p : V.Prog} {f : Int} {l : List (List Int)} {k : Nat} (h : (k : Int) < l.length) (h2 : ¬ (pwF p (l.getD (k : Int).toNat K.intss.dflt) f.toNat (startP p) 0).2 = List.length (l.getD (k : Int).toNat K.intss.dflt)) : l.all (jobOk p f) = false := by
  rw [Int.toNat_natCast] at h2
  exact all_no (d := K.intss.dflt) h (by unfold jobOk; rw [decide_eq_false h2, Bool.and_false])
theorem all_idle {e : List (List Int)} {b : List Bool} : ∀ {k m : Nat}, idleTo e b k = false → k ≤ m → idleTo e b m = false
  | k, 0, h, hm => by obtain rfl : k = 0 := by omega
                      exact h
  | k, m + 1, h, hm => by
    by_cases c : k = m + 1
    · subst c; exact h
    · rw [idleTo, all_idle (m := m) h (by omega), Bool.false_and]
theorem busyTo_idle {e : List (List Int)} {b : List Bool} {k : Nat} : idleTo e b (k + 1) = (idleTo e b k && (b.getD k K.bools.dflt || decide ((e.getD k K.intss.dflt).length = 0))) := rfl
theorem al_len {o e : List (List Int)} {b : List Bool} {d : List (List Int)} : (allJ o e b d).length = o.length + (busyTo e b e.length).length + d.length := by
  unfold allJ
  rw [List.length_append, List.length_append]
theorem id_bad {e : List (List Int)} {b : List Bool} {k : Nat} (h : (k : Int) < e.length) (h1 : b.getD (k : Int).toNat K.bools.dflt = false) (h2 : ¬ (List.length (e.getD (k : Int).toNat K.intss.dflt) : Int) = 0) : idleTo e b e.length = false := by
  rw [Int.toNat_natCast] at h1 h2
  refine all_idle (k := k + 1) ?_ (by omega)
  rw [busyTo_idle, h1, decide_eq_false (by omega), Bool.or_false, Bool.and_false]
theorem id_end {e : List (List Int)} {b : List Bool} {k : Nat} (h : idleTo e b k = true) (h1 : ¬ (k : Int) < e.length) (h2 : k ≤ e.length) : idleTo e b e.length = true := by
  obtain rfl : k = e.length := by omega
  exact h
theorem no_don {p : V.Prog} {f : Int} {d : List (List Int)} {n : Nat} (h : (n : Int) < d.length) (h1 : forkB p f (d.getD (n : Int).toNat K.intss.dflt) = true) : d.all (fun j => !forkB p f j) = false := by
  rw [Int.toNat_natCast] at h1
  exact all_no (d := K.intss.dflt) h (by show (!forkB p f _) = false; rw [h1]; rfl)
theorem len_at {d : List (List Int)} {n : Nat} (hj : d.all (fun j => decide (j.length ≤ 1000000)) = true) (h : (n : Int) < d.length) : List.length (d.getD (n : Int).toNat K.intss.dflt) ≤ 1000000 := by
  rw [Int.toNat_natCast, ss_get (show n < d.length by omega)]
  exact of_decide_eq_true (List.all_eq_true.1 hj _ (List.getElem_mem (by omega)))
theorem done_turns {p : V.Prog} {f : Int} {o e : List (List Int)} {b : List Bool} {d : List (List Int)} {n : Nat} (ha : (allJ o e b d).all (jobOk p f) = true) (h : (n : Int) < d.length) : turnsP (d.getD (n : Int).toNat K.intss.dflt) = true := by
  rw [Int.toNat_natCast, ss_get (show n < d.length by omega)]
  have := List.all_eq_true.1 ha (d[n]'(by omega)) (by unfold allJ; exact List.mem_append_right _ (List.getElem_mem _))
  unfold jobOk at this
  rw [Bool.and_eq_true] at this
  exact this.1
set_option maxHeartbeats 8000000 in
set_option maxRecDepth 100000 in
theorem i_PoolOk (w mem inn : Int) (code : List V.Ins) (f : Int) (o e : List (List Int)) (b : List Bool) (d : List (List Int)) (hol : o.length ≤ 1048576) (hdl : d.length ≤ 1048576) (hj : d.all (fun j => decide (j.length ≤ 1000000)) = true) : CallsV Tryz.prog 22 [.agg [.dat (.i w), .dat (.i mem), .dat (.i inn), .dat (.seq .inss code)], .agg [.dat (.i f), .dat (.seq .intss o), .dat (.seq .intss e), .dat (.seq .bools b), .dat (.seq .intss d)]] (.dat (.bool (poolP ⟨w, mem, inn, code⟩ f o e b d))) := by
  refine CallsV.of_awp tauOk mixOk Tryz.func22 rfl rfl rfl ?_
  conv => whnf
  repeat' (first
    | ((with_reducible refine fun (K1 : AX → AState → Prop) hK => ?_); (with_reducible refine awp_rg ?_ ?_); exact rfl; conv => whnf)
    | ((with_reducible refine fun (K1 : AX → AState → Prop) hK => ?_); conv => whnf)
    | ((with_reducible show K1 _ _); subst hK; conv => whnf)
    | (with_reducible exact rfl)
    | ((with_reducible refine sp_T ?_); conv => whnf)
    | ((with_reducible refine sp_F ?_); conv => whnf)
    | ((with_reducible refine sp_T' ?_); conv => whnf)
    | ((with_reducible refine sp_F' ?_); conv => whnf)
    | ((with_reducible refine sp_d (fun h => ?_) (fun h => ?_)) <;> first | contradiction | (subst h; conv => whnf) | (conv => whnf))
    | ((with_reducible refine sp_d' (fun h => ?_) (fun h => ?_)) <;> first | contradiction | (subst h; conv => whnf) | (conv => whnf))
    | ((with_reducible refine sp_n (fun h => ?_) (fun h => ?_)) <;> first | contradiction | (subst h; conv => whnf) | (conv => whnf))
    | ((with_reducible refine sp_n' (fun h => ?_) (fun h => ?_)) <;> first | contradiction | (subst h; conv => whnf) | (conv => whnf))
    | ((with_reducible refine sp_nb (fun h => ?_) (fun h => ?_)) <;> first | (exact Bool.noConfusion (Eq.trans (Eq.symm h) (show _ = true by with_reducible assumption))) | (exact Bool.noConfusion (Eq.trans (Eq.symm (show _ = false by with_reducible assumption)) h)) | (conv => whnf))
    | ((with_reducible refine sp_nb' (fun h => ?_) (fun h => ?_)) <;> first | (exact Bool.noConfusion (Eq.trans (Eq.symm h) (show _ = true by with_reducible assumption))) | (exact Bool.noConfusion (Eq.trans (Eq.symm (show _ = false by with_reducible assumption)) h)) | (conv => whnf))
    | ((with_reducible refine sp_b (fun h => ?_) (fun h => ?_)) <;> first | (exact Bool.noConfusion (Eq.trans (Eq.symm h) (show _ = true by with_reducible assumption))) | (exact Bool.noConfusion (Eq.trans (Eq.symm (show _ = false by with_reducible assumption)) h)) | (conv => whnf))
    | (refine ⟨(rfl : nodupB _ = true), rfl, ?_⟩; conv => whnf)
    | (with_reducible refine bnd2 ?_ ?_)
    | ((with_reducible refine and_of ?_ ?_); conv => whnf)
    | (refine Exists.intro ({n : Nat // n ≤ d.length ∧ (d.take n).all (fun j => !forkB ⟨w, mem, inn, code⟩ f j) = true}) (Exists.intro (fun ⟨n, hn⟩ => mkS Tryz.f22.ntmps [(2, .ptr 2 0), (3, .ptr 3 0), (7, .dat (.seq .intss (allJ o e b d))), (101, .dat (.seq .intss d)), (102, .dat (.i d.length)), (103, .dat (.i n))] [(2, .box [.dat (.i w), .dat (.i mem), .dat (.i inn), .dat (.seq .inss code)]), (3, .box [.dat (.i f), .dat (.seq .intss o), .dat (.seq .intss e), .dat (.seq .bools b), .dat (.seq .intss d)])]) (Exists.intro (fun ⟨n, hn⟩ => d.length - n) (Exists.intro ⟨0, ?_⟩ (And.intro (SubP.sub (σ := [(2, some 2), (3, some 3)]) ⟨⟨rfl, rfl, rfl⟩, ⟨⟨rfl, rfl⟩, ⟨rfl, rfl⟩, (wk_dat ?_), (wk_dat ?_), (wk_dat ?_), (wk_dat ?_), trivial⟩, ⟨⟨(wkC_dat ?_), (wkC_dat ?_), (wkC_dat ?_), (wkC_dat ?_), trivial⟩, ⟨(wkC_dat ?_), (wkC_dat ?_), (wkC_dat ?_), (wkC_dat ?_), (wkC_dat ?_), trivial⟩, trivial⟩⟩) (fun ⟨n, hn⟩ => ?_))))); rotate_right; conv => whnf)
    | (refine Exists.intro (⟨n + 1, ?_⟩ : {n : Nat // n ≤ d.length ∧ (d.take n).all (fun j => !forkB ⟨w, mem, inn, code⟩ f j) = true}) (And.intro ?_ (SubP.sub (σ := [(2, some 2), (3, some 3)]) ⟨⟨rfl, rfl, rfl⟩, ⟨⟨rfl, rfl⟩, ⟨rfl, rfl⟩, (wk_dat ?_), (wk_dat ?_), (wk_dat ?_), (wk_dat ?_), trivial⟩, ⟨⟨(wkC_dat ?_), (wkC_dat ?_), (wkC_dat ?_), (wkC_dat ?_), trivial⟩, ⟨(wkC_dat ?_), (wkC_dat ?_), (wkC_dat ?_), (wkC_dat ?_), (wkC_dat ?_), trivial⟩, trivial⟩⟩)))
    | (refine Exists.intro ({m : Nat // m ≤ (allJ o e b d).length ∧ ((allJ o e b d).take m).all (jobOk ⟨w, mem, inn, code⟩ f) = true}) (Exists.intro (fun ⟨m, hm⟩ => mkS Tryz.f22.ntmps [(2, .ptr 2 0), (3, .ptr 3 0), (7, .dat (.seq .intss (allJ o e b d))), (78, .dat (.seq .intss (allJ o e b d))), (79, .dat (.i (allJ o e b d).length)), (80, .dat (.i m))] [(2, .box [.dat (.i w), .dat (.i mem), .dat (.i inn), .dat (.seq .inss code)]), (3, .box [.dat (.i f), .dat (.seq .intss o), .dat (.seq .intss e), .dat (.seq .bools b), .dat (.seq .intss d)])]) (Exists.intro (fun ⟨m, hm⟩ => (allJ o e b d).length - m) (Exists.intro ⟨0, ?_⟩ (And.intro (SubP.sub (σ := [(2, some 2), (3, some 3)]) ⟨⟨rfl, rfl, rfl⟩, ⟨⟨rfl, rfl⟩, ⟨rfl, rfl⟩, (wk_dat ?_), (wk_dat ?_), (wk_dat ?_), (wk_dat ?_), trivial⟩, ⟨⟨(wkC_dat ?_), (wkC_dat ?_), (wkC_dat ?_), (wkC_dat ?_), trivial⟩, ⟨(wkC_dat ?_), (wkC_dat ?_), (wkC_dat ?_), (wkC_dat ?_), (wkC_dat ?_), trivial⟩, trivial⟩⟩) (fun ⟨m, hm⟩ => ?_))))); rotate_right; conv => whnf)
    | (refine Exists.intro (⟨m + 1, ?_⟩ : {m : Nat // m ≤ (allJ o e b d).length ∧ ((allJ o e b d).take m).all (jobOk ⟨w, mem, inn, code⟩ f) = true}) (And.intro ?_ (SubP.sub (σ := [(2, some 2), (3, some 3)]) ⟨⟨rfl, rfl, rfl⟩, ⟨⟨rfl, rfl⟩, ⟨rfl, rfl⟩, (wk_dat ?_), (wk_dat ?_), (wk_dat ?_), (wk_dat ?_), trivial⟩, ⟨⟨(wkC_dat ?_), (wkC_dat ?_), (wkC_dat ?_), (wkC_dat ?_), trivial⟩, ⟨(wkC_dat ?_), (wkC_dat ?_), (wkC_dat ?_), (wkC_dat ?_), (wkC_dat ?_), trivial⟩, trivial⟩⟩)))
    | (refine Exists.intro ({k : Nat // k ≤ e.length ∧ idleTo e b k = true}) (Exists.intro (fun ⟨k, hk⟩ => mkS Tryz.f22.ntmps [(2, .ptr 2 0), (3, .ptr 3 0), (53, .dat (.seq .intss e)), (54, .dat (.i e.length)), (55, .dat (.i k))] [(2, .box [.dat (.i w), .dat (.i mem), .dat (.i inn), .dat (.seq .inss code)]), (3, .box [.dat (.i f), .dat (.seq .intss o), .dat (.seq .intss e), .dat (.seq .bools b), .dat (.seq .intss d)])]) (Exists.intro (fun ⟨k, hk⟩ => e.length - k) (Exists.intro ⟨0, ?_⟩ (And.intro (SubP.sub (σ := [(2, some 2), (3, some 3)]) ⟨⟨rfl, rfl, rfl⟩, ⟨⟨rfl, rfl⟩, ⟨rfl, rfl⟩, (wk_dat ?_), (wk_dat ?_), (wk_dat ?_), trivial⟩, ⟨⟨(wkC_dat ?_), (wkC_dat ?_), (wkC_dat ?_), (wkC_dat ?_), trivial⟩, ⟨(wkC_dat ?_), (wkC_dat ?_), (wkC_dat ?_), (wkC_dat ?_), (wkC_dat ?_), trivial⟩, trivial⟩⟩) (fun ⟨k, hk⟩ => ?_))))); rotate_right; conv => whnf)
    | (refine Exists.intro (⟨k + 1, ?_⟩ : {k : Nat // k ≤ e.length ∧ idleTo e b k = true}) (And.intro ?_ (SubP.sub (σ := [(2, some 2), (3, some 3)]) ⟨⟨rfl, rfl, rfl⟩, ⟨⟨rfl, rfl⟩, ⟨rfl, rfl⟩, (wk_dat ?_), (wk_dat ?_), (wk_dat ?_), trivial⟩, ⟨⟨(wkC_dat ?_), (wkC_dat ?_), (wkC_dat ?_), (wkC_dat ?_), trivial⟩, ⟨(wkC_dat ?_), (wkC_dat ?_), (wkC_dat ?_), (wkC_dat ?_), (wkC_dat ?_), trivial⟩, trivial⟩⟩)))
    | ((with_reducible refine pcI (g := 56) ?_); refine ⟨_, i_ProgramOk .., rfl, ?_⟩; rotate_right; conv => whnf)
    | ((with_reducible show Exists _); refine Exists.intro _ (And.intro (i_ProgramOk ..) (And.intro rfl ?_)); rotate_right; conv => whnf)
    | ((with_reducible refine pcI (g := 57) ?_); refine ⟨_, i_fuelOk .., rfl, ?_⟩; rotate_right; conv => whnf)
    | ((with_reducible show Exists _); refine Exists.intro _ (And.intro (i_fuelOk ..) (And.intro rfl ?_)); rotate_right; conv => whnf)
    | ((with_reducible refine pcI (g := 58) ?_); refine ⟨_, i_allJobs (ho := ?_) (he := ?_) (hb := ?_) (hd := ?_) .., rfl, ?_⟩; rotate_right; conv => whnf)
    | ((with_reducible show Exists _); refine Exists.intro _ (And.intro (i_allJobs (ho := ?_) (he := ?_) (hb := ?_) (hd := ?_) ..) (And.intro rfl ?_)); rotate_right; conv => whnf)
    | ((with_reducible refine pcI (g := 59) ?_); refine ⟨_, i_turnsOk .., rfl, ?_⟩; rotate_right; conv => whnf)
    | ((with_reducible show Exists _); refine Exists.intro _ (And.intro (i_turnsOk ..) (And.intro rfl ?_)); rotate_right; conv => whnf)
    | ((with_reducible refine pcI (g := 60) ?_); refine ⟨_, i_pathWith (hp := ?_) (ht := ?_) (hf := ?_) (hf2 := ?_) .., rfl, ?_⟩; rotate_right; conv => whnf)
    | ((with_reducible show Exists _); refine Exists.intro _ (And.intro (i_pathWith (hp := ?_) (ht := ?_) (hf := ?_) (hf2 := ?_) ..) (And.intro rfl ?_)); rotate_right; conv => whnf)
    | ((with_reducible refine pcI (g := 61) ?_); refine ⟨_, i_atFork (hp := ?_) (ht := ?_) (hf := ?_) (hf2 := ?_) (hj := ?_) .., rfl, ?_⟩; rotate_right; conv => whnf)
    | ((with_reducible show Exists _); refine Exists.intro _ (And.intro (i_atFork (hp := ?_) (ht := ?_) (hf := ?_) (hf2 := ?_) (hj := ?_) ..) (And.intro rfl ?_)); rotate_right; conv => whnf)
    | ((with_reducible refine pcI (g := 62) ?_); refine ⟨_, i_allDifferent .., rfl, ?_⟩; rotate_right; conv => whnf)
    | ((with_reducible show Exists _); refine Exists.intro _ (And.intro (i_allDifferent ..) (And.intro rfl ?_)); rotate_right; conv => whnf)
    | ((with_reducible show awpOps _ _ _ _ _ _); conv => whnf)
    | (intro h; conv => whnf))
  all_goals (repeat (clear hK; clear K1))
  all_goals (have hw : IntKind.i64.wrap ((o.length : Int) + d.length) = o.length + d.length := wrap_id (by omega) (by omega); (try simp only [hw] at *); have hbl := busy_len e b e.length; have hal : (allJ o e b d).length = o.length + (busyTo e b e.length).length + d.length := al_len)
  all_goals first
    | exact True.intro
    | (with_reducible exact hal ▸ rfl)
    | ((with_reducible show (_ : Int) ≤ _); first | omega | (have q := inP_iff.1 (show inP f 0 400 = true by with_reducible assumption); omega))
    | ((with_reducible show (_ : Int) < _); omega)
    | ((with_reducible show (_ : Nat) < _); ((try dsimp only); omega))
    | exact congrArg (Dat.int .i64) (wrap_succ (by with_reducible assumption) (by with_reducible assumption)).symm
    | (with_reducible assumption)
    | (with_reducible exact all_job hm.2 (by with_reducible assumption) (by with_reducible assumption) (of_decide_eq_true (by with_reducible assumption)))
    | (rw [busyTo_idle, hk.2]; simp only [Int.toNat_natCast] at *; (first | (rw [show b.getD k K.bools.dflt = true by with_reducible assumption]; rfl) | (rw [decide_eq_true (show (e.getD k K.intss.dflt).length = 0 by omega), Bool.or_true]; rfl)))
    | (simp only [Int.toNat_natCast] at *; rw [all_step K.intss.dflt (by with_reducible assumption), hn.2, show forkB ⟨w, mem, inn, code⟩ f (d.getD n K.intss.dflt) = false by with_reducible assumption]; rfl)
    | ((with_reducible show turnsP _ = true); exact done_turns (all_end (by with_reducible assumption) hm.2) (by with_reducible assumption))
    | (exact len_at hj (by with_reducible assumption))
    | exact rfl
    | (refine congrArg Dat.bool (pool_n (fun q => ?_)); first
        | exact Bool.noConfusion (q.hp.symm.trans (by with_reducible assumption))
        | exact Bool.noConfusion (q.hf.symm.trans (by with_reducible assumption))
        | (have q1 := q.hb; have q2 := q.hh; have q3 := q.al; omega)
        | exact Bool.noConfusion (q.jobs.symm.trans (no_job1 (by with_reducible assumption) (by with_reducible assumption)))
        | exact Bool.noConfusion (q.jobs.symm.trans (no_job2 (by with_reducible assumption) (of_decide_eq_false (by with_reducible assumption))))
        | exact Bool.noConfusion (q.don.symm.trans (no_don (by with_reducible assumption) (by with_reducible assumption)))
        | exact Bool.noConfusion (q.idle.symm.trans (id_bad (by with_reducible assumption) (by with_reducible assumption) (by omega))))
    | (refine congrArg Dat.bool ?_; by_cases hn2 : (allJ o e b d).Nodup <;> first
        | (rw [decide_eq_true hn2]; exact pool_y ⟨(by with_reducible assumption), (by with_reducible assumption), ⟨by omega, by omega⟩, by omega, id_end hk.2 (by with_reducible assumption) hk.1, by omega, all_end (by with_reducible assumption) hm.2, all_end (by with_reducible assumption) hn.2, hn2⟩)
        | (rw [decide_eq_false hn2]; exact pool_n (fun q => hn2 q.nod)))
    | ((with_reducible show _ ≤ _); omega)
    | skip
end Vg
