/- Pools: contracts of the program's PoolOk. Condition: lists are no longer than the law lets through. -/
import Derived.Test.YtahdmongckgjcaaGreatDoorPathW
namespace Vg
open Go Go.Proofs
set_option maxRecDepth 100000
set_option maxHeartbeats 40000000
/-! ### pools in plain words -/
def qcv (h : List (List Int)) (b : List Bool) : Nat → List (List Int)
  | 0 => []
  | k + 1 => qcv h b k ++ (if b.getD k K.bools.dflt = true then [h.getD k K.intss.dflt] else [])
def qev (o h : List (List Int)) (b : List Bool) (d : List (List Int)) : List (List Int) := o ++ qcv h b h.length ++ d
def qdu (h : List (List Int)) (b : List Bool) : Nat → Bool
  | 0 => true
  | k + 1 => qdu h b k && (b.getD k K.bools.dflt || decide ((h.getD k K.intss.dflt).length = 0))
noncomputable def qeg (p : V.Prog) (fuel : Int) (j : List Int) : Bool := qcg j && decide ((pwF p j fuel.toNat (startP p) 0).2 = j.length)
noncomputable def qhs (p : V.Prog) (fuel : Int) (j : List Int) : Bool := decide ((pwF p (j ++ [1]) fuel.toNat (startP p) 0).2 = (j ++ [1]).length)
structure PoolIs (p : V.Prog) (f : Int) (o h : List (List Int)) (b : List Bool) (d : List (List Int)) : Prop where
  hp : qci p = true
  hf : inP f 0 400 = true
  hb : 1 ≤ b.length ∧ b.length ≤ 4
  hh : h.length = b.length
  idle : qdu h b h.length = true
  al : (qev o h b d).length ≤ 64
  jobs : (qev o h b d).all (qeg p f) = true
  don : d.all (fun j => !qhs p f j) = true
  nod : (qev o h b d).Nodup
noncomputable def poolP (p : V.Prog) (f : Int) (o h : List (List Int)) (b : List Bool) (d : List (List Int)) : Bool := @decide (PoolIs p f o h b d) (Classical.propDecidable _)
theorem pool_y {p : V.Prog} {f : Int} {o h : List (List Int)} {b : List Bool} {d : List (List Int)} (q : PoolIs p f o h b d) : poolP p f o h b d = true := @decide_eq_true _ (Classical.propDecidable _) q
theorem pool_n {p : V.Prog} {f : Int} {o h : List (List Int)} {b : List Bool} {d : List (List Int)} (q : ¬ PoolIs p f o h b d) : poolP p f o h b d = false := @decide_eq_false _ (Classical.propDecidable _) q
theorem qhb (h : List (List Int)) (b : List Bool) : ∀ n, (qcv h b n).length ≤ n
  | 0 => Nat.le_refl _
  | n + 1 => by
    have := qhb h b n
    rw [qcv, List.length_append]
    split <;> simp <;> omega
theorem i_Equal (a b : List Int) : CallsV Tryz.prog 109 [.dat (.seq .ints a), .dat (.seq .ints b)] (.dat (.bool (decide (a = b)))) := by
  refine CallsV.of_awp qaf qag Tryz.func109 rfl rfl rfl ?_
  conv => whnf
  repeat' (first | ((with_reducible refine fun (K1 : AX → AState → Prop) hK => ?_); (with_reducible refine qae ?_ ?_); exact rfl; conv => whnf) | ((with_reducible first | refine Alt.l ?_ | refine fun (K1 : AX → AState → Prop) hK => ?_ | (show K1 _ _; subst hK)); conv => whnf) | (with_reducible exact rfl) | ((with_reducible first | refine qbe (fun h => ?_) (fun h => ?_) | refine qhh (fun h => ?_) (fun h => ?_)) <;> first | contradiction | (subst h; conv => whnf) | (conv => whnf)) | (refine ⟨(rfl : qac _ = true), rfl, ?_⟩; conv => whnf) | (with_reducible refine qbn ?_ ?_) | ((with_reducible refine qad ?_ ?_); conv => whnf) | (refine Exists.intro ({k : Nat // a.take k = b.take k}) (Exists.intro (fun ⟨k, hk⟩ => mkS Tryz.f109.ntmps [(0, .dat (.seq .ints a)), (1, .dat (.seq .ints b)), (12, .dat (.i a.length)), (13, .dat (.i k))] []) (Exists.intro (fun ⟨k, hk⟩ => a.length - k) (Exists.intro ⟨0, rfl⟩ (And.intro (SubP.sub (σ := []) ⟨⟨rfl, rfl, rfl⟩, ⟨(qab ?_), (qab ?_), (qab ?_), (qab ?_), trivial⟩, trivial⟩) (fun ⟨k, hk⟩ => ?_))))); rotate_right; conv => whnf) | (refine Exists.intro ⟨k + 1, ?_⟩ (And.intro ?_ (SubP.sub (σ := []) ⟨⟨rfl, rfl, rfl⟩, ⟨(qab ?_), (qab ?_), (qab ?_), (qab ?_), trivial⟩, trivial⟩))) | (intro h; conv => whnf))
  all_goals (repeat (clear hK; clear K1))
  all_goals first | rfl | assumption | omega | (dsimp only; omega) | exact congrArg (Dat.int .i64) (qa1 (by assumption) (by assumption)).symm | exact congrArg Dat.bool (decide_eq_false (fun e => h (by rw [e]))) | exact qcz (K.dflt .ints) (by assumption) (by omega) hk h | exact congrArg Dat.bool (decide_eq_true (qdg (by assumption) (by omega) hk))
theorem i_sameJob (x y : List Int) : CallsV Tryz.prog 89 [.agg [.dat (.seq .ints x)], .agg [.dat (.seq .ints y)]] (.dat (.bool (decide (x = y)))) := by
  refine CallsV.of_awp qaf qag Tryz.func89 rfl rfl rfl ?_
  conv => whnf
  repeat' (first | ((with_reducible refine fun (K1 : AX → AState → Prop) hK => ?_); (with_reducible refine qae ?_ ?_); exact rfl; conv => whnf) | ((with_reducible first | refine fun (K1 : AX → AState → Prop) hK => ?_ | (show K1 _ _; subst hK)); conv => whnf) | (refine ⟨(rfl : qac _ = true), rfl, ?_⟩; conv => whnf) | ((with_reducible refine pcI (g := 109) ?_); refine ⟨_, i_Equal .., rfl, ?_⟩; rotate_right; conv => whnf))
  all_goals (repeat (clear hK; clear K1))
  all_goals first | rfl | skip
theorem i_fuelOk (n : Int) : CallsV Tryz.prog 57 [.dat (.i n)] (.dat (.bool (inP n 0 400))) := by
  refine CallsV.of_awp qaf qag Tryz.func57 rfl rfl rfl ?_
  conv => whnf
  repeat' (first | ((with_reducible refine fun (K1 : AX → AState → Prop) hK => ?_); (with_reducible refine qae ?_ ?_); exact rfl; conv => whnf) | ((with_reducible first | (show K1 _ _; subst hK) | refine sp_T ?_ | refine sp_F ?_); conv => whnf) | ((with_reducible refine qbe (fun h => ?_) (fun h => ?_)) <;> first | contradiction | (subst h; conv => whnf) | (conv => whnf)) | (refine ⟨(rfl : qac _ = true), rfl, ?_⟩; conv => whnf))
  all_goals (repeat (clear hK; clear K1))
  all_goals first | (refine congrArg Dat.bool ?_; unfold inP; simp [*]; done) | (refine congrArg Dat.bool ?_; unfold inP; rw [Bool.eq_iff_iff]; simp; omega) | skip
theorem i_atFork (w mem inn : Int) (code : List V.Ins) (j : List Int) (fuel : Int) (hp : qci ⟨w, mem, inn, code⟩ = true) (ht : qcg j = true) (hf : 0 ≤ fuel) (hf2 : fuel ≤ 400) (hj : j.length ≤ 1048576) : CallsV Tryz.prog 61 [.agg [.dat (.i w), .dat (.i mem), .dat (.i inn), .dat (.seq .inss code)], .agg [.dat (.seq .ints j)], .dat (.i fuel)] (.dat (.bool (qhs ⟨w, mem, inn, code⟩ fuel j))) := by
  refine CallsV.of_awp qaf qag Tryz.func61 rfl rfl rfl ?_
  conv => whnf
  repeat' (first | ((with_reducible refine fun (K1 : AX → AState → Prop) hK => ?_); (with_reducible refine qae ?_ ?_); exact rfl; conv => whnf) | ((with_reducible refine fun (K1 : AX → AState → Prop) hK => ?_); (with_reducible refine qa9 ?_ ?_); exact rfl; (conv => whnf); simp only [List.nil_append, List.cons_append]) | ((with_reducible refine qap ?_); conv => whnf) | ((with_reducible refine qau ?_ ?_); exact rfl; conv => whnf) | ((with_reducible refine qak ?_ ?_); exact rfl) | ((with_reducible refine qav ?_)) | ((with_reducible refine qa5 ?_ ?_); exact rfl; conv => whnf) | ((with_reducible refine qaq ?_ ?_); exact rfl) | ((with_reducible refine qa4 ?_ ?_); exact rfl; conv => whnf) | ((with_reducible show WR _ _ _ _ _ _ _ _ _); refine qb7 rfl ?_) | ((with_reducible show WEach _ _); refine qal rfl ?_; conv => whnf) | ((with_reducible show WEach _ _); refine qao rfl ?_ ?_; conv => whnf) | ((with_reducible show K1 _ _); subst hK; conv => whnf) | (with_reducible exact rfl) | (refine ⟨(rfl : qac _ = true), rfl, ?_⟩; conv => whnf) | ((with_reducible refine qad ?_ ?_); conv => whnf) | ((first | ((with_reducible refine pcI (g := 60) ?_); refine ⟨_, qkz (hp := ?_) (ht := ?_) (hf := ?_) (hf2 := ?_) .., rfl, ?_⟩) | ((with_reducible refine pcI (g := 88) ?_); refine ⟨_, i_with (h1 := ?_) .., rfl, ?_⟩)); rotate_right; conv => whnf))
  all_goals (repeat (clear hK; clear K1))
  all_goals first | (with_reducible assumption) | exact rfl | (unfold qcg at *; rw [List.all_append, ht]; rfl) | skip
theorem i_allJobs (f : Int) (o e : List (List Int)) (b : List Bool) (d : List (List Int)) (ho : o.length ≤ 1000) (he : e.length ≤ 1000) (hb : e.length ≤ b.length) (hd : d.length ≤ 1000) : CallsV Tryz.prog 58 [.agg [.dat (.i f), .dat (.seq .intss o), .dat (.seq .intss e), .dat (.seq .bools b), .dat (.seq .intss d)]] (.dat (.seq .intss (qev o e b d))) := by
  refine CallsV.of_awp qaf qag Tryz.func58 rfl rfl rfl ?_
  conv => whnf
  repeat' (first | ((with_reducible refine fun (K1 : AX → AState → Prop) hK => ?_); (with_reducible refine qae ?_ ?_); exact rfl; conv => whnf) | ((with_reducible first | refine Alt.l ?_ | refine fun (K1 : AX → AState → Prop) hK => ?_ | (show K1 _ _; subst hK)); conv => whnf) | (with_reducible exact rfl) | ((with_reducible refine qbe (fun h => ?_) (fun h => ?_)) <;> first | contradiction | (subst h; conv => whnf) | (conv => whnf)) | ((with_reducible refine qdl (fun h => ?_) (fun h => ?_)) <;> first | (exact qa0 h (by with_reducible assumption)) | (exact qa0 (by with_reducible assumption) h) | (conv => whnf)) | (refine ⟨(rfl : qac _ = true), rfl, ?_⟩; conv => whnf) | (with_reducible refine qbn ?_ ?_) | (with_reducible refine qns ?_ ?_) | ((with_reducible refine qad ?_ ?_); conv => whnf) | (refine Exists.intro ({k : Nat // k ≤ e.length}) (Exists.intro (fun ⟨k, hk⟩ => mkS Tryz.f58.ntmps [(1, .ptr 1 0), (3, .row 3), (11, .dat (.seq .intss e)), (12, .dat (.i e.length)), (13, .dat (.i k))] [(1, .box [.dat (.i f), .dat (.seq .intss o), .dat (.seq .intss e), .dat (.seq .bools b), .dat (.seq .intss d)]), (3, .row 61 .intss (o ++ qcv e b k) false)]) (Exists.intro (fun ⟨k, hk⟩ => e.length - k) (Exists.intro ⟨0, Nat.zero_le _⟩ (And.intro (SubP.sub (σ := [(1, some 1), (3, some 9)]) ⟨⟨rfl, rfl, rfl⟩, ⟨⟨rfl, rfl⟩, rfl, (qab ?_), (qab ?_), (qab ?_), trivial⟩, ⟨⟨(qaa ?_), (qaa ?_), (qaa ?_), (qaa ?_), (qaa ?_), trivial⟩, ⟨⟨rfl, rfl⟩, ?_⟩, trivial⟩⟩) (fun ⟨k, hk⟩ => ?_))))); rotate_right; conv => whnf) | (refine Exists.intro (⟨k + 1, ?_⟩ : {k : Nat // k ≤ e.length}) (And.intro ?_ (SubP.sub (σ := [(1, some 1), (3, some 26)]) ⟨⟨rfl, rfl, rfl⟩, ⟨⟨rfl, rfl⟩, rfl, (qab ?_), (qab ?_), (qab ?_), trivial⟩, ⟨⟨(qaa ?_), (qaa ?_), (qaa ?_), (qaa ?_), (qaa ?_), trivial⟩, ⟨⟨rfl, rfl⟩, ?_⟩, trivial⟩⟩))) | (refine Exists.intro (⟨k + 1, ?_⟩ : {k : Nat // k ≤ e.length}) (And.intro ?_ (SubP.sub (σ := [(1, some 1), (3, some 3)]) ⟨⟨rfl, rfl, rfl⟩, ⟨⟨rfl, rfl⟩, rfl, (qab ?_), (qab ?_), (qab ?_), trivial⟩, ⟨⟨(qaa ?_), (qaa ?_), (qaa ?_), (qaa ?_), (qaa ?_), trivial⟩, ⟨⟨rfl, rfl⟩, ?_⟩, trivial⟩⟩))) | (intro h; conv => whnf))
  all_goals (repeat (clear hK; clear K1))
  all_goals (have hbl := qhb e b)
  all_goals first | ((with_reducible show (_ : Int) ≤ _); omega) | ((with_reducible show (_ : Int) < _); omega) | ((with_reducible show (_ : Nat) < _); (dsimp only; omega)) | exact congrArg (Dat.int .i64) (qa1 (by with_reducible assumption) (by with_reducible assumption)).symm | exact rfl | (refine congrArg (Sigma.mk K.intss) ?_; rw [qcv, if_pos (by have q := (by with_reducible assumption : b.getD (k : Int).toNat K.bools.dflt = true); rw [Int.toNat_natCast] at q; exact q), ← List.append_assoc]; exact rfl) | (refine congrArg (Sigma.mk K.intss) ?_; rw [qcv, if_neg (by have q := (by with_reducible assumption : b.getD (k : Int).toNat K.bools.dflt = false); rw [Int.toNat_natCast] at q; rw [q]; decide), List.append_nil]) | (refine congrArg (Sigma.mk K.intss) ?_; show o ++ [] = o; rw [List.append_nil]) | (have h1 := hbl k; (first | show ((o ++ qcv e b k).length + 1) * 24 ≤ _ | show (o ++ qcv e b k).length + 1 ≤ 2 ^ 63 - 1 | show ((o ++ qcv e b k).length + d.length) * 24 ≤ _ | show (o ++ qcv e b k).length + d.length ≤ 2 ^ 63 - 1); rw [List.length_append]; omega) | ((first | show o.length * 24 ≤ _ | show o.length ≤ 2 ^ 63 - 1); omega) | (obtain rfl : k = e.length := (by omega); exact rfl) | ((with_reducible show _ ≤ _); omega) | skip
structure NdK (l : List (List Int)) (i k : Nat) : Prop where
  kl : k ≤ i
  il : i < l.length
  ni : l.getD i K.intss.dflt ∉ l.take k
structure NdI (l : List (List Int)) (i : Nat) : Prop where
  il : i ≤ l.length
  nd : (l.take i).Nodup
section
variable {l : List (List Int)} {i k : Nat}
theorem qkj (h : k < l.length) : l.getD k K.intss.dflt = l[k] := by
  rw [List.getD_eq_getElem?_getD, List.getElem?_eq_getElem h]; rfl
theorem nd_0 : NdI l 0 := ⟨Nat.zero_le _, by rw [List.take_zero]; exact List.nodup_nil⟩
theorem nk_0 (h : (i : Int) < l.length) : NdK l i 0 := ⟨Nat.zero_le _, by omega, by rw [List.take_zero]; exact List.not_mem_nil⟩
theorem nk_s (h : NdK l i k) (hk : (k : Int) < i) (hn : ¬ l.getD (i : Int).toNat K.intss.dflt = l.getD (k : Int).toNat K.intss.dflt) : NdK l i (k + 1) := by
  have h1 := h.il
  refine ⟨by omega, h1, fun q => ?_⟩
  rw [List.take_succ_eq_append_getElem (show k < l.length by omega), List.mem_append, List.mem_singleton] at q
  rcases q with q | q
  · exact h.ni q
  · rw [Int.toNat_natCast, Int.toNat_natCast, qkj (show k < l.length by omega)] at hn
    exact hn q
theorem ni_s (h0 : NdI l i) (h : NdK l i k) (hk : ¬ (k : Int) < i) : NdI l (i + 1) := by
  have h1 := h.il
  have h2 := h.kl
  obtain rfl : k = i := by omega
  refine ⟨by omega, ?_⟩
  rw [List.take_succ_eq_append_getElem h1, List.nodup_append]
  refine ⟨h0.nd, by simp, fun a ha b hb e => ?_⟩
  rw [List.mem_singleton] at hb
  subst hb e
  exact h.ni (by rw [qkj h1]; exact ha)
theorem nd_n (h : NdK l i k) (hk : (k : Int) < i) (he : l.getD (i : Int).toNat K.intss.dflt = l.getD (k : Int).toNat K.intss.dflt) : ¬ l.Nodup := by
  intro q
  have h1 := h.il
  rw [Int.toNat_natCast, Int.toNat_natCast, qkj h1, qkj (show k < l.length by omega)] at he
  have hki : k < i := by omega
  exact List.pairwise_iff_getElem.1 q k i (by omega) h1 hki he.symm
theorem nd_y (h : NdI l i) (hi : ¬ (i : Int) < l.length) : l.Nodup := by
  have := h.nd
  rwa [List.take_of_length_le (by omega)] at this
end
theorem qka (l : List (List Int)) : CallsV Tryz.prog 62 [.dat (.seq .intss l)] (.dat (.bool (decide l.Nodup))) := by
  refine CallsV.of_awp qaf qag Tryz.func62 rfl rfl rfl ?_
  conv => whnf
  repeat' (first | ((with_reducible refine fun (K1 : AX → AState → Prop) hK => ?_); (with_reducible refine qae ?_ ?_); exact rfl; conv => whnf) | ((with_reducible first | refine Alt.l ?_ | refine fun (K1 : AX → AState → Prop) hK => ?_ | (show K1 _ _; subst hK)); conv => whnf) | (with_reducible exact rfl) | ((with_reducible refine qbe (fun h => ?_) (fun h => ?_)) <;> first | contradiction | (subst h; conv => whnf) | (conv => whnf)) | (refine ⟨(rfl : qac _ = true), rfl, ?_⟩; conv => whnf) | (with_reducible refine qbn ?_ ?_) | ((with_reducible refine qad ?_ ?_); conv => whnf) | (refine Exists.intro ({k : Nat // NdK l i k}) (Exists.intro (fun ⟨k, hk⟩ => mkS Tryz.f62.ntmps [(0, .dat (.seq .intss l)), (3, .dat (.i i)), (5, .dat (.seq .intss l)), (6, .dat (.i l.length)), (7, .dat (.i i)), (10, .dat (.i i)), (11, .dat (.i k))] []) (Exists.intro (fun ⟨k, hk⟩ => i - k) (Exists.intro ⟨0, ?_⟩ (And.intro (SubP.sub (σ := []) ⟨⟨rfl, rfl, rfl⟩, ⟨(qab ?_), (qab ?_), (qab ?_), (qab ?_), (qab ?_), (qab ?_), (qab ?_), trivial⟩, trivial⟩) (fun ⟨k, hk⟩ => ?_))))); rotate_right; conv => whnf) | (refine Exists.intro (⟨k + 1, ?_⟩ : {k : Nat // NdK l i k}) (And.intro ?_ (SubP.sub (σ := []) ⟨⟨rfl, rfl, rfl⟩, ⟨(qab ?_), (qab ?_), (qab ?_), (qab ?_), (qab ?_), (qab ?_), (qab ?_), trivial⟩, trivial⟩))) | (refine Exists.intro ({i : Nat // NdI l i}) (Exists.intro (fun ⟨i, hi⟩ => mkS Tryz.f62.ntmps [(0, .dat (.seq .intss l)), (5, .dat (.seq .intss l)), (6, .dat (.i l.length)), (7, .dat (.i i))] []) (Exists.intro (fun ⟨i, hi⟩ => l.length - i) (Exists.intro ⟨0, ?_⟩ (And.intro (SubP.sub (σ := []) ⟨⟨rfl, rfl, rfl⟩, ⟨(qab ?_), (qab ?_), (qab ?_), (qab ?_), trivial⟩, trivial⟩) (fun ⟨i, hi⟩ => ?_))))); rotate_right; conv => whnf) | (refine Exists.intro (⟨i + 1, ?_⟩ : {i : Nat // NdI l i}) (And.intro ?_ (SubP.sub (σ := []) ⟨⟨rfl, rfl, rfl⟩, ⟨(qab ?_), (qab ?_), (qab ?_), (qab ?_), trivial⟩, trivial⟩))) | ((with_reducible show Exists _); refine Exists.intro _ (And.intro (i_sameJob ..) (And.intro rfl ?_)); rotate_right; conv => whnf) | (intro h; conv => whnf))
  all_goals (repeat (clear hK; clear K1))
  all_goals first | (with_reducible exact nd_0) | (with_reducible exact nk_0 (by with_reducible assumption)) | (with_reducible exact nk_s hk (by with_reducible assumption) (by with_reducible assumption)) | (with_reducible exact ni_s hi hk (by with_reducible assumption)) | exact congrArg Dat.bool (decide_eq_false (nd_n hk (by with_reducible assumption) (by with_reducible assumption))) | exact congrArg Dat.bool (decide_eq_true (nd_y hi (by with_reducible assumption))) | ((with_reducible show (_ : Int) ≤ _); omega) | ((with_reducible show (_ : Int) < _); have q := hk.il; omega) | ((with_reducible show (_ : Nat) < _); (dsimp only; omega)) | exact rfl | exact congrArg (Dat.int .i64) (qa1 (by with_reducible assumption) (by with_reducible assumption)).symm | (have q := hk.il; exact congrArg (Dat.int .i64) (qa1 (m := l.length) (by omega) (by with_reducible assumption)).symm) | skip
theorem all_job {p : V.Prog} {f : Int} {l : List (List Int)} {k : Nat} (hall : (l.take k).all (qeg p f) = true) (h : (k : Int) < l.length) (h1 : qcg (l.getD (k : Int).toNat K.intss.dflt) = true)
    (h2 : (pwF p (l.getD (k : Int).toNat K.intss.dflt) f.toNat (startP p) 0).2 = List.length (l.getD (k : Int).toNat K.intss.dflt)) : (l.take (k + 1)).all (qeg p f) = true := by
  rw [Int.toNat_natCast] at h1 h2
  rw [qdj K.intss.dflt h, hall, Bool.true_and]
  unfold qeg
  rw [h1, decide_eq_true h2]; rfl
theorem no_job1 {p : V.Prog} {f : Int} {l : List (List Int)} {k : Nat} (h : (k : Int) < l.length) (h1 : qcg (l.getD (k : Int).toNat K.intss.dflt) = false) : l.all (qeg p f) = false := by
  rw [Int.toNat_natCast] at h1
  exact qhd (d := K.intss.dflt) h (by unfold qeg; rw [h1]; rfl)
theorem no_job2 {p : V.Prog} {f : Int} {l : List (List Int)} {k : Nat} (h : (k : Int) < l.length) (h2 : ¬ (pwF p (l.getD (k : Int).toNat K.intss.dflt) f.toNat (startP p) 0).2 = List.length (l.getD (k : Int).toNat K.intss.dflt)) : l.all (qeg p f) = false := by
  rw [Int.toNat_natCast] at h2
  exact qhd (d := K.intss.dflt) h (by unfold qeg; rw [decide_eq_false h2, Bool.and_false])
theorem all_idle {e : List (List Int)} {b : List Bool} : ∀ {k m : Nat}, qdu e b k = false → k ≤ m → qdu e b m = false
  | k, 0, h, hm => by obtain rfl : k = 0 := by omega
                      exact h
  | k, m + 1, h, hm => by
    by_cases c : k = m + 1
    · subst c; exact h
    · rw [qdu, all_idle (m := m) h (by omega), Bool.false_and]
theorem qgi {e : List (List Int)} {b : List Bool} {k : Nat} : qdu e b (k + 1) = (qdu e b k && (b.getD k K.bools.dflt || decide ((e.getD k K.intss.dflt).length = 0))) := rfl
theorem al_len {o e : List (List Int)} {b : List Bool} {d : List (List Int)} : (qev o e b d).length = o.length + (qcv e b e.length).length + d.length := by
  unfold qev
  rw [List.length_append, List.length_append]
theorem id_bad {e : List (List Int)} {b : List Bool} {k : Nat} (h : (k : Int) < e.length) (h1 : b.getD (k : Int).toNat K.bools.dflt = false) (h2 : ¬ (List.length (e.getD (k : Int).toNat K.intss.dflt) : Int) = 0) : qdu e b e.length = false := by
  rw [Int.toNat_natCast] at h1 h2
  refine all_idle (k := k + 1) ?_ (by omega)
  rw [qgi, h1, decide_eq_false (by omega), Bool.or_false, Bool.and_false]
theorem id_end {e : List (List Int)} {b : List Bool} {k : Nat} (h : qdu e b k = true) (h1 : ¬ (k : Int) < e.length) (h2 : k ≤ e.length) : qdu e b e.length = true := by
  obtain rfl : k = e.length := by omega
  exact h
theorem no_don {p : V.Prog} {f : Int} {d : List (List Int)} {n : Nat} (h : (n : Int) < d.length) (h1 : qhs p f (d.getD (n : Int).toNat K.intss.dflt) = true) : d.all (fun j => !qhs p f j) = false := by
  rw [Int.toNat_natCast] at h1
  exact qhd (d := K.intss.dflt) h (by show (!qhs p f _) = false; rw [h1]; rfl)
theorem len_at {d : List (List Int)} {n : Nat} (hj : d.all (fun j => decide (j.length ≤ 1048576)) = true) (h : (n : Int) < d.length) : List.length (d.getD (n : Int).toNat K.intss.dflt) ≤ 1048576 := by
  rw [Int.toNat_natCast, qkj (show n < d.length by omega)]
  exact of_decide_eq_true (List.all_eq_true.1 hj _ (List.getElem_mem (by omega)))
theorem qk7 {p : V.Prog} {f : Int} {o e : List (List Int)} {b : List Bool} {d : List (List Int)} {n : Nat} (ha : (qev o e b d).all (qeg p f) = true) (h : (n : Int) < d.length) : qcg (d.getD (n : Int).toNat K.intss.dflt) = true := by
  rw [Int.toNat_natCast, qkj (show n < d.length by omega)]
  have := List.all_eq_true.1 ha (d[n]'(by omega)) (by unfold qev; exact List.mem_append_right _ (List.getElem_mem _))
  unfold qeg at this
  rw [Bool.and_eq_true] at this
  exact this.1
theorem i_PoolOk (w mem inn : Int) (code : List V.Ins) (f : Int) (o e : List (List Int)) (b : List Bool) (d : List (List Int)) (hol : o.length ≤ 1048576) (hdl : d.length ≤ 1048576) (hj : d.all (fun j => decide (j.length ≤ 1048576)) = true) : CallsV Tryz.prog 22 [.agg [.dat (.i w), .dat (.i mem), .dat (.i inn), .dat (.seq .inss code)], .agg [.dat (.i f), .dat (.seq .intss o), .dat (.seq .intss e), .dat (.seq .bools b), .dat (.seq .intss d)]] (.dat (.bool (poolP ⟨w, mem, inn, code⟩ f o e b d))) := by
  refine CallsV.of_awp qaf qag Tryz.func22 rfl rfl rfl ?_
  conv => whnf
  repeat' (first | ((with_reducible refine fun (K1 : AX → AState → Prop) hK => ?_); (with_reducible refine qae ?_ ?_); exact rfl; conv => whnf) | ((with_reducible first | refine fun (K1 : AX → AState → Prop) hK => ?_ | (show K1 _ _; subst hK)); conv => whnf) | (with_reducible exact rfl) | ((with_reducible first | refine sp_T ?_ | refine sp_F ?_ | refine sp_T' ?_ | refine sp_F' ?_); conv => whnf) | ((with_reducible first | refine qbe (fun h => ?_) (fun h => ?_) | refine qj3 (fun h => ?_) (fun h => ?_) | refine qhh (fun h => ?_) (fun h => ?_) | refine sp_n' (fun h => ?_) (fun h => ?_)) <;> first | contradiction | (subst h; conv => whnf) | (conv => whnf)) | ((with_reducible first | refine qbt (fun h => ?_) (fun h => ?_) | refine qcq (fun h => ?_) (fun h => ?_) | refine qdl (fun h => ?_) (fun h => ?_)) <;> first | (exact qa0 h (by with_reducible assumption)) | (exact qa0 (by with_reducible assumption) h) | (conv => whnf)) | (refine ⟨(rfl : qac _ = true), rfl, ?_⟩; conv => whnf) | (with_reducible refine qbn ?_ ?_) | ((with_reducible refine qad ?_ ?_); conv => whnf) | (refine Exists.intro ({n : Nat // n ≤ d.length ∧ (d.take n).all (fun j => !qhs ⟨w, mem, inn, code⟩ f j) = true}) (Exists.intro (fun ⟨n, hn⟩ => mkS Tryz.f22.ntmps [(2, .ptr 2 0), (3, .ptr 3 0), (7, .dat (.seq .intss (qev o e b d))), (101, .dat (.seq .intss d)), (102, .dat (.i d.length)), (103, .dat (.i n))] [(2, .box [.dat (.i w), .dat (.i mem), .dat (.i inn), .dat (.seq .inss code)]), (3, .box [.dat (.i f), .dat (.seq .intss o), .dat (.seq .intss e), .dat (.seq .bools b), .dat (.seq .intss d)])]) (Exists.intro (fun ⟨n, hn⟩ => d.length - n) (Exists.intro ⟨0, ?_⟩ (And.intro (SubP.sub (σ := [(2, some 2), (3, some 3)]) ⟨⟨rfl, rfl, rfl⟩, ⟨⟨rfl, rfl⟩, ⟨rfl, rfl⟩, (qab ?_), (qab ?_), (qab ?_), (qab ?_), trivial⟩, ⟨⟨(qaa ?_), (qaa ?_), (qaa ?_), (qaa ?_), trivial⟩, ⟨(qaa ?_), (qaa ?_), (qaa ?_), (qaa ?_), (qaa ?_), trivial⟩, trivial⟩⟩) (fun ⟨n, hn⟩ => ?_))))); rotate_right; conv => whnf) | (refine Exists.intro (⟨n + 1, ?_⟩ : {n : Nat // n ≤ d.length ∧ (d.take n).all (fun j => !qhs ⟨w, mem, inn, code⟩ f j) = true}) (And.intro ?_ (SubP.sub (σ := [(2, some 2), (3, some 3)]) ⟨⟨rfl, rfl, rfl⟩, ⟨⟨rfl, rfl⟩, ⟨rfl, rfl⟩, (qab ?_), (qab ?_), (qab ?_), (qab ?_), trivial⟩, ⟨⟨(qaa ?_), (qaa ?_), (qaa ?_), (qaa ?_), trivial⟩, ⟨(qaa ?_), (qaa ?_), (qaa ?_), (qaa ?_), (qaa ?_), trivial⟩, trivial⟩⟩))) | (refine Exists.intro ({m : Nat // m ≤ (qev o e b d).length ∧ ((qev o e b d).take m).all (qeg ⟨w, mem, inn, code⟩ f) = true}) (Exists.intro (fun ⟨m, hm⟩ => mkS Tryz.f22.ntmps [(2, .ptr 2 0), (3, .ptr 3 0), (7, .dat (.seq .intss (qev o e b d))), (78, .dat (.seq .intss (qev o e b d))), (79, .dat (.i (qev o e b d).length)), (80, .dat (.i m))] [(2, .box [.dat (.i w), .dat (.i mem), .dat (.i inn), .dat (.seq .inss code)]), (3, .box [.dat (.i f), .dat (.seq .intss o), .dat (.seq .intss e), .dat (.seq .bools b), .dat (.seq .intss d)])]) (Exists.intro (fun ⟨m, hm⟩ => (qev o e b d).length - m) (Exists.intro ⟨0, ?_⟩ (And.intro (SubP.sub (σ := [(2, some 2), (3, some 3)]) ⟨⟨rfl, rfl, rfl⟩, ⟨⟨rfl, rfl⟩, ⟨rfl, rfl⟩, (qab ?_), (qab ?_), (qab ?_), (qab ?_), trivial⟩, ⟨⟨(qaa ?_), (qaa ?_), (qaa ?_), (qaa ?_), trivial⟩, ⟨(qaa ?_), (qaa ?_), (qaa ?_), (qaa ?_), (qaa ?_), trivial⟩, trivial⟩⟩) (fun ⟨m, hm⟩ => ?_))))); rotate_right; conv => whnf) | (refine Exists.intro (⟨m + 1, ?_⟩ : {m : Nat // m ≤ (qev o e b d).length ∧ ((qev o e b d).take m).all (qeg ⟨w, mem, inn, code⟩ f) = true}) (And.intro ?_ (SubP.sub (σ := [(2, some 2), (3, some 3)]) ⟨⟨rfl, rfl, rfl⟩, ⟨⟨rfl, rfl⟩, ⟨rfl, rfl⟩, (qab ?_), (qab ?_), (qab ?_), (qab ?_), trivial⟩, ⟨⟨(qaa ?_), (qaa ?_), (qaa ?_), (qaa ?_), trivial⟩, ⟨(qaa ?_), (qaa ?_), (qaa ?_), (qaa ?_), (qaa ?_), trivial⟩, trivial⟩⟩))) | (refine Exists.intro ({k : Nat // k ≤ e.length ∧ qdu e b k = true}) (Exists.intro (fun ⟨k, hk⟩ => mkS Tryz.f22.ntmps [(2, .ptr 2 0), (3, .ptr 3 0), (53, .dat (.seq .intss e)), (54, .dat (.i e.length)), (55, .dat (.i k))] [(2, .box [.dat (.i w), .dat (.i mem), .dat (.i inn), .dat (.seq .inss code)]), (3, .box [.dat (.i f), .dat (.seq .intss o), .dat (.seq .intss e), .dat (.seq .bools b), .dat (.seq .intss d)])]) (Exists.intro (fun ⟨k, hk⟩ => e.length - k) (Exists.intro ⟨0, ?_⟩ (And.intro (SubP.sub (σ := [(2, some 2), (3, some 3)]) ⟨⟨rfl, rfl, rfl⟩, ⟨⟨rfl, rfl⟩, ⟨rfl, rfl⟩, (qab ?_), (qab ?_), (qab ?_), trivial⟩, ⟨⟨(qaa ?_), (qaa ?_), (qaa ?_), (qaa ?_), trivial⟩, ⟨(qaa ?_), (qaa ?_), (qaa ?_), (qaa ?_), (qaa ?_), trivial⟩, trivial⟩⟩) (fun ⟨k, hk⟩ => ?_))))); rotate_right; conv => whnf) | (refine Exists.intro (⟨k + 1, ?_⟩ : {k : Nat // k ≤ e.length ∧ qdu e b k = true}) (And.intro ?_ (SubP.sub (σ := [(2, some 2), (3, some 3)]) ⟨⟨rfl, rfl, rfl⟩, ⟨⟨rfl, rfl⟩, ⟨rfl, rfl⟩, (qab ?_), (qab ?_), (qab ?_), trivial⟩, ⟨⟨(qaa ?_), (qaa ?_), (qaa ?_), (qaa ?_), trivial⟩, ⟨(qaa ?_), (qaa ?_), (qaa ?_), (qaa ?_), (qaa ?_), trivial⟩, trivial⟩⟩))) | ((first | ((with_reducible refine pcI (g := 56) ?_); refine ⟨_, qou .., rfl, ?_⟩) | ((with_reducible refine pcI (g := 57) ?_); refine ⟨_, i_fuelOk .., rfl, ?_⟩) | ((with_reducible refine pcI (g := 58) ?_); refine ⟨_, i_allJobs (ho := ?_) (he := ?_) (hb := ?_) (hd := ?_) .., rfl, ?_⟩) | ((with_reducible refine pcI (g := 59) ?_); refine ⟨_, i_turnsOk .., rfl, ?_⟩) | ((with_reducible refine pcI (g := 60) ?_); refine ⟨_, qkz (hp := ?_) (ht := ?_) (hf := ?_) (hf2 := ?_) .., rfl, ?_⟩) | ((with_reducible refine pcI (g := 61) ?_); refine ⟨_, i_atFork (hp := ?_) (ht := ?_) (hf := ?_) (hf2 := ?_) (hj := ?_) .., rfl, ?_⟩) | ((with_reducible refine pcI (g := 62) ?_); refine ⟨_, qka .., rfl, ?_⟩)); rotate_right; conv => whnf) | (intro h; conv => whnf))
  all_goals (repeat (clear hK; clear K1))
  all_goals (have hw : IntKind.i64.wrap ((o.length : Int) + d.length) = o.length + d.length := qah (by omega) (by omega); (try simp only [hw] at *); have hbl := qhb e b e.length; have hal : (qev o e b d).length = o.length + (qcv e b e.length).length + d.length := al_len)
  all_goals first | ((with_reducible show (_ : Int) ≤ _); first | omega | (have q := qbb.1 (show inP f 0 400 = true by with_reducible assumption); omega)) | ((with_reducible show (_ : Int) < _); omega) | ((with_reducible show (_ : Nat) < _); ((try dsimp only); omega)) | exact congrArg (Dat.int .i64) (qa1 (by with_reducible assumption) (by with_reducible assumption)).symm | (with_reducible assumption) | (with_reducible exact all_job hm.2 (by with_reducible assumption) (by with_reducible assumption) (of_decide_eq_true (by with_reducible assumption))) | (rw [qgi, hk.2]; simp only [Int.toNat_natCast] at *; (first | (rw [show b.getD k K.bools.dflt = true by with_reducible assumption]; rfl) | (rw [decide_eq_true (show (e.getD k K.intss.dflt).length = 0 by omega), Bool.or_true]; rfl))) | (simp only [Int.toNat_natCast] at *; rw [qdj K.intss.dflt (by with_reducible assumption), hn.2, show qhs ⟨w, mem, inn, code⟩ f (d.getD n K.intss.dflt) = false by with_reducible assumption]; rfl) | ((with_reducible show qcg _ = true); exact qk7 (qdy (by with_reducible assumption) hm.2) (by with_reducible assumption)) | (exact len_at hj (by with_reducible assumption)) | exact rfl | (refine congrArg Dat.bool (pool_n (fun q => ?_)); first | exact Bool.noConfusion (q.hp.symm.trans (by with_reducible assumption)) | exact Bool.noConfusion (q.hf.symm.trans (by with_reducible assumption)) | (have q1 := q.hb; have q2 := q.hh; have q3 := q.al; omega) | exact Bool.noConfusion (q.jobs.symm.trans (no_job1 (by with_reducible assumption) (by with_reducible assumption))) | exact Bool.noConfusion (q.jobs.symm.trans (no_job2 (by with_reducible assumption) (of_decide_eq_false (by with_reducible assumption)))) | exact Bool.noConfusion (q.don.symm.trans (no_don (by with_reducible assumption) (by with_reducible assumption))) | exact Bool.noConfusion (q.idle.symm.trans (id_bad (by with_reducible assumption) (by with_reducible assumption) (by omega)))) | (refine congrArg Dat.bool ?_; by_cases hn2 : (qev o e b d).Nodup <;> first | (rw [decide_eq_true hn2]; exact pool_y ⟨(by with_reducible assumption), (by with_reducible assumption), ⟨by omega, by omega⟩, by omega, id_end hk.2 (by with_reducible assumption) hk.1, by omega, qdy (by with_reducible assumption) hm.2, qdy (by with_reducible assumption) hn.2, hn2⟩) | (rw [decide_eq_false hn2]; exact pool_n (fun q => hn2 q.nod))) | ((with_reducible show _ ≤ _); omega) | skip
end Vg
