/- Pools: contracts of the program's PoolOk. Condition: lists are no longer than the law lets through. -/
import Derived.Test.YtjlffejifadkiaaGreatDoorPathW
namespace Vg
open Go Go.Proofs
set_option maxRecDepth 100000
set_option maxHeartbeats 40000000
/-! ### pools in plain words -/
def qa6 (h : List (List Int)) (b : List Bool) : Nat → List (List Int)
  | 0 => []
  | k + 1 => qa6 h b k ++ (if b.getD k K.bools.dflt = true then [h.getD k K.intss.dflt] else [])
def qdz (o h : List (List Int)) (b : List Bool) (d : List (List Int)) : List (List Int) := o ++ qa6 h b h.length ++ d
def qde (h : List (List Int)) (b : List Bool) : Nat → Bool
  | 0 => true
  | k + 1 => qde h b k && (b.getD k K.bools.dflt || decide ((h.getD k K.intss.dflt).length = 0))
noncomputable def qdd (p : V.Prog) (fuel : Int) (j : List Int) : Bool := qbx j && decide ((pwF p j fuel.toNat (startP p) 0).2 = j.length)
noncomputable def qhg (p : V.Prog) (fuel : Int) (j : List Int) : Bool := decide ((pwF p (j ++ [1]) fuel.toNat (startP p) 0).2 = (j ++ [1]).length)
structure PoolIs (p : V.Prog) (f : Int) (o h : List (List Int)) (b : List Bool) (d : List (List Int)) : Prop where
  hp : qbz p = true
  hf : inP f 0 400 = true
  hb : 1 ≤ b.length ∧ b.length ≤ 4
  hh : h.length = b.length
  idle : qde h b h.length = true
  al : (qdz o h b d).length ≤ 64
  jobs : (qdz o h b d).all (qdd p f) = true
  don : d.all (fun j => !qhg p f j) = true
  nod : (qdz o h b d).Nodup
noncomputable def qjv (p : V.Prog) (f : Int) (o h : List (List Int)) (b : List Bool) (d : List (List Int)) : Bool := @decide (PoolIs p f o h b d) (Classical.propDecidable _)
theorem pool_y {p : V.Prog} {f : Int} {o h : List (List Int)} {b : List Bool} {d : List (List Int)} (q : PoolIs p f o h b d) : qjv p f o h b d = true := @decide_eq_true _ (Classical.propDecidable _) q
theorem pool_n {p : V.Prog} {f : Int} {o h : List (List Int)} {b : List Bool} {d : List (List Int)} (q : ¬ PoolIs p f o h b d) : qjv p f o h b d = false := @decide_eq_false _ (Classical.propDecidable _) q
theorem qg0 (h : List (List Int)) (b : List Bool) : ∀ n, (qa6 h b n).length ≤ n
  | 0 => Nat.le_refl _
  | n + 1 => by
    have := qg0 h b n
    rw [qa6, List.length_append]
    split <;> simp <;> omega
theorem i_Equal (a b : List Int) : CallsV Tryz.prog 36 [.dat (.seq .ints a), .dat (.seq .ints b)] (.dat (.bool (decide (a = b)))) := by
  refine oV Tryz.func36 ⟨?_⟩
  repeat' (first | ((with_reducible refine fun (K1 : KT) hK => ?_); refine stW ⟨?_⟩) | ((with_reducible show K1 _ _); subst hK; conv => whnf) | (with_reducible exact rfl) | refine st0 ⟨?_⟩ | ((with_reducible refine SplS.mk (fun h => ?_) (fun h => ?_)) <;> first | exact ctM | (subst h; conv => whnf) | (conv => whnf)) | refine stB ⟨?_⟩ ⟨?_⟩ | (refine Exists.intro ({k : Nat // a.take k = b.take k}) (Exists.intro (fun ⟨k, hk⟩ => mkS Tryz.f36.ntmps [(0, .dat (.seq .ints a)), (1, .dat (.seq .ints b)), (12, .dat (.i a.length)), (13, .dat (.i k))] []) (Exists.intro (fun ⟨k, hk⟩ => a.length - k) (Exists.intro ⟨0, rfl⟩ (And.intro (SubP.sub (σ := []) ⟨⟨rfl, rfl, rfl⟩, ⟨(qab ?_), (qab ?_), (qab ?_), (qab ?_), trivial⟩, trivial⟩) (fun ⟨k, hk⟩ => ?_))))); rotate_right; conv => whnf) | (refine Exists.intro ⟨k + 1, ?_⟩ (And.intro ?_ (SubP.sub (σ := []) ⟨⟨rfl, rfl, rfl⟩, ⟨(qab ?_), (qab ?_), (qab ?_), (qab ?_), trivial⟩, trivial⟩))) | (intro h; conv => whnf))
  all_goals repeat clear hK K1
  all_goals first | rfl | assumption | exact Bool.noConfusion (h.symm.trans hp) | omega | (dsimp only; omega) | exact congrArg (Dat.int .i64) (qan (by assumption) (by assumption)).symm | exact congrArg Dat.bool (decide_eq_false (fun e => h (by rw [e]))) | exact qa9 (K.dflt .ints) (by assumption) omG hk (of_decide_eq_true h) | exact qa9 (K.dflt .ints) (by assumption) omG hk h | exact congrArg Dat.bool (decide_eq_true (qcz (by assumption) omG hk))
theorem i_sameJob (x y : List Int) : CallsV Tryz.prog 125 [.agg [.dat (.seq .ints x)], .agg [.dat (.seq .ints y)]] (.dat (.bool (decide (x = y)))) := by
  refine oV Tryz.func125 ⟨?_⟩
  repeat' (first | ((with_reducible refine fun (K1 : KT) hK => ?_); refine stW ⟨?_⟩) | ((with_reducible show K1 _ _); subst hK; conv => whnf) | (with_reducible exact rfl) | refine st0 ⟨?_⟩ | ((with_reducible refine SplS.mk (fun h => ?_) (fun h => ?_)) <;> first | exact ctM | (subst h; conv => whnf) | (conv => whnf)) | ((with_reducible first | refine pcI (g := 36) ?_ | show Exists _); refine ⟨_, i_Equal .., rfl, ?_⟩; rotate_right; conv => whnf) | (intro h; conv => whnf))
  all_goals repeat clear hK K1
  all_goals first | rfl | skip
theorem i_fuelOk (n : Int) : CallsV Tryz.prog 33 [.dat (.i n)] (.dat (.bool (inP n 0 400))) := by
  refine oV Tryz.func33 ⟨?_⟩
  repeat' (first | ((with_reducible refine fun (K1 : KT) hK => ?_); refine stW ⟨?_⟩) | ((with_reducible show K1 _ _); subst hK; conv => whnf) | (with_reducible exact rfl) | refine st0 ⟨?_⟩ | ((with_reducible refine SplS.mk (fun h => ?_) (fun h => ?_)) <;> first | exact ctM | (subst h; conv => whnf) | (conv => whnf)) | (intro h; conv => whnf))
  all_goals repeat clear hK K1
  all_goals first | (refine congrArg Dat.bool ?_; unfold inP; simp [*]; done) | (refine congrArg Dat.bool ?_; unfold inP; rw [Bool.eq_iff_iff]; simp; omega) | skip
theorem i_atFork (w mem inn : Int) (code : List V.Ins) (j : List Int) (fuel : Int) (hp : qbz ⟨w, mem, inn, code⟩ = true) (ht : qbx j = true) (hf : 0 ≤ fuel) (hf2 : fuel ≤ 400) (hj : j.length ≤ 1048576) : CallsV Tryz.prog 94 [.agg [.dat (.i w), .dat (.i mem), .dat (.i inn), .dat (.seq .inss code)], .agg [.dat (.seq .ints j)], .dat (.i fuel)] (.dat (.bool (qhg ⟨w, mem, inn, code⟩ fuel j))) := by
  refine oV Tryz.func94 ⟨?_⟩
  repeat' (first | ((with_reducible refine fun (K1 : KT) hK => ?_); refine stW ⟨?_⟩) | ((with_reducible show K1 _ _); subst hK; conv => whnf) | (with_reducible exact rfl) | refine stD ⟨?_⟩ | ((with_reducible show WEach _ _); refine qag rfl ?_ ?_; conv => whnf) | refine st0 ⟨?_⟩ | ((with_reducible refine SplS.mk (fun h => ?_) (fun h => ?_)) <;> first | exact ctM | (subst h; conv => whnf) | (conv => whnf)) | refine stB ⟨?_⟩ ⟨?_⟩ | ((with_reducible first | refine pcI (g := 93) ?_ | show Exists _); refine ⟨_, qku (hp := ?_) (ht := ?_) (hf := ?_) (hf2 := ?_) .., rfl, ?_⟩; rotate_right; conv => whnf) | ((with_reducible first | refine pcI (g := 124) ?_ | show Exists _); refine ⟨_, qnl (h1 := ?_) .., rfl, ?_⟩; rotate_right; conv => whnf) | (intro h; conv => whnf))
  all_goals repeat clear hK K1
  all_goals first | (with_reducible assumption) | exact rfl | (unfold qbx at *; rw [List.all_append, ht]; rfl) | skip
theorem i_allJobs (f : Int) (o e : List (List Int)) (b : List Bool) (d : List (List Int)) (ho : o.length ≤ 1000) (he : e.length ≤ 1000) (hb : e.length ≤ b.length) (hd : d.length ≤ 1000) : CallsV Tryz.prog 91 [.agg [.dat (.i f), .dat (.seq .intss o), .dat (.seq .intss e), .dat (.seq .bools b), .dat (.seq .intss d)]] (.dat (.seq .intss (qdz o e b d))) := by
  refine oV Tryz.func91 ⟨?_⟩
  repeat' (first | ((with_reducible refine fun (K1 : KT) hK => ?_); refine stW ⟨?_⟩) | ((with_reducible show K1 _ _); subst hK; conv => whnf) | (with_reducible exact rfl) | refine st0 ⟨?_⟩ | ((with_reducible refine SplS.mk (fun h => ?_) (fun h => ?_)) <;> first | exact ctM | ((fail_if_success (have _x : @Eq Bool _ _ := h)); subst h; conv => whnf) | (conv => whnf)) | refine stB ⟨?_⟩ ⟨?_⟩ | (refine Exists.intro ({k : Nat // k ≤ e.length}) (Exists.intro (fun ⟨k, hk⟩ => mkS Tryz.f91.ntmps [(1, .ptr 1 0), (3, .row 3), (11, .dat (.seq .intss e)), (12, .dat (.i e.length)), (13, .dat (.i k))] [(1, .box [.dat (.i f), .dat (.seq .intss o), .dat (.seq .intss e), .dat (.seq .bools b), .dat (.seq .intss d)]), (3, .row 85 .intss (o ++ qa6 e b k) false)]) (Exists.intro (fun ⟨k, hk⟩ => e.length - k) (Exists.intro ⟨0, Nat.zero_le _⟩ (And.intro (SubP.sub (σ := [(1, some 1), (3, some 9)]) ⟨⟨rfl, rfl, rfl⟩, ⟨⟨rfl, rfl⟩, rfl, (qab ?_), (qab ?_), (qab ?_), trivial⟩, ⟨⟨(qaa ?_), (qaa ?_), (qaa ?_), (qaa ?_), (qaa ?_), trivial⟩, ⟨⟨rfl, rfl⟩, ?_⟩, trivial⟩⟩) (fun ⟨k, hk⟩ => ?_))))); rotate_right; conv => whnf) | (refine Exists.intro (⟨k + 1, ?_⟩ : {k : Nat // k ≤ e.length}) (And.intro ?_ (SubP.sub (σ := [(1, some 1), (3, some 26)]) ⟨⟨rfl, rfl, rfl⟩, ⟨⟨rfl, rfl⟩, rfl, (qab ?_), (qab ?_), (qab ?_), trivial⟩, ⟨⟨(qaa ?_), (qaa ?_), (qaa ?_), (qaa ?_), (qaa ?_), trivial⟩, ⟨⟨rfl, rfl⟩, ?_⟩, trivial⟩⟩))) | (refine Exists.intro (⟨k + 1, ?_⟩ : {k : Nat // k ≤ e.length}) (And.intro ?_ (SubP.sub (σ := [(1, some 1), (3, some 3)]) ⟨⟨rfl, rfl, rfl⟩, ⟨⟨rfl, rfl⟩, rfl, (qab ?_), (qab ?_), (qab ?_), trivial⟩, ⟨⟨(qaa ?_), (qaa ?_), (qaa ?_), (qaa ?_), (qaa ?_), trivial⟩, ⟨⟨rfl, rfl⟩, ?_⟩, trivial⟩⟩))) | (intro h; conv => whnf))
  all_goals repeat clear hK K1
  all_goals (have hbl := qg0 e b)
  all_goals first | exact True.intro | ((with_reducible show (_ : Int) ≤ _); omega) | ((with_reducible show (_ : Int) < _); omega) | ((with_reducible show (_ : Nat) < _); (dsimp only; omega)) | exact congrArg (Dat.int .i64) (qan asmR asmR).symm | exact rfl | (refine congrArg (Sigma.mk K.intss) ?_; rw [qa6, if_pos (by have q := (by with_reducible assumption : b.getD (k : Int).toNat K.bools.dflt = true); rw [Int.toNat_natCast] at q; exact q), ← List.append_assoc]; exact rfl) | (refine congrArg (Sigma.mk K.intss) ?_; rw [qa6, if_neg (by have q := (by with_reducible assumption : b.getD (k : Int).toNat K.bools.dflt = false); rw [Int.toNat_natCast] at q; rw [q]; decide), List.append_nil]) | (refine congrArg (Sigma.mk K.intss) ?_; show o ++ [] = o; rw [List.append_nil]) | (have h1 := hbl k; (first | show ((o ++ qa6 e b k).length + 1) * 24 ≤ _ | show (o ++ qa6 e b k).length + 1 ≤ 2 ^ 63 - 1 | show ((o ++ qa6 e b k).length + d.length) * 24 ≤ _ | show (o ++ qa6 e b k).length + d.length ≤ 2 ^ 63 - 1); rw [List.length_append]; omega) | ((first | show o.length * 24 ≤ _ | show o.length ≤ 2 ^ 63 - 1); omega) | (obtain rfl : k = e.length := omG; exact rfl) | ((with_reducible show _ ≤ _); omega) | skip
structure NdK (l : List (List Int)) (i k : Nat) : Prop where
  kl : k ≤ i
  il : i < l.length
  ni : l.getD i K.intss.dflt ∉ l.take k
structure NdI (l : List (List Int)) (i : Nat) : Prop where
  il : i ≤ l.length
  nd : (l.take i).Nodup
section
variable {l : List (List Int)} {i k : Nat}
theorem qkc (h : k < l.length) : l.getD k K.intss.dflt = l[k] := by
  rw [List.getD_eq_getElem?_getD, List.getElem?_eq_getElem h]; rfl
theorem nd_0 : NdI l 0 := ⟨Nat.zero_le _, by rw [List.take_zero]; exact List.nodup_nil⟩
theorem nk_0 (h : (i : Int) < l.length) : NdK l i 0 := ⟨Nat.zero_le _, by omega, by rw [List.take_zero]; exact List.not_mem_nil⟩
theorem nk_s (h : NdK l i k) (hk : (k : Int) < i) (hn : ¬ l.getD (i : Int).toNat K.intss.dflt = l.getD (k : Int).toNat K.intss.dflt) : NdK l i (k + 1) := by
  have h1 := h.il
  refine ⟨by omega, h1, fun q => ?_⟩
  rw [List.take_succ_eq_append_getElem (show k < l.length by omega), List.mem_append, List.mem_singleton] at q
  rcases q with q | q
  · exact h.ni q
  · rw [Int.toNat_natCast, Int.toNat_natCast, qkc (show k < l.length by omega)] at hn
    exact hn q
theorem ni_s (h0 : NdI l i) (h : NdK l i k) (hk : ¬ (k : Int) < i) : NdI l (i + 1) := by
  have h1 := h.il
  have h2 := h.kl
  obtain rfl : k = i := by omega
  refine ⟨by omega, ?_⟩
  rw [List.take_succ_eq_append_getElem h1, List.nodup_append]
  refine ⟨h0.nd, by simp, fun a ha b hb e => ?_⟩
  rw [List.mem_singleton] at hb
  subst hb e
  exact h.ni (by rw [qkc h1]; exact ha)
theorem nd_n (h : NdK l i k) (hk : (k : Int) < i) (he : l.getD (i : Int).toNat K.intss.dflt = l.getD (k : Int).toNat K.intss.dflt) : ¬ l.Nodup := by
  intro q
  have h1 := h.il
  rw [Int.toNat_natCast, Int.toNat_natCast, qkc h1, qkc (show k < l.length by omega)] at he
  have hki : k < i := by omega
  exact List.pairwise_iff_getElem.1 q k i omG h1 hki he.symm
theorem nd_y (h : NdI l i) (hi : ¬ (i : Int) < l.length) : l.Nodup := by
  have := h.nd
  rwa [List.take_of_length_le omG] at this
end
theorem qj3 (l : List (List Int)) : CallsV Tryz.prog 95 [.dat (.seq .intss l)] (.dat (.bool (decide l.Nodup))) := by
  refine oV Tryz.func95 ⟨?_⟩
  repeat' (first | ((with_reducible refine fun (K1 : KT) hK => ?_); refine stW ⟨?_⟩) | ((with_reducible show K1 _ _); subst hK; conv => whnf) | (with_reducible exact rfl) | refine st0 ⟨?_⟩ | ((with_reducible refine SplS.mk (fun h => ?_) (fun h => ?_)) <;> first | exact ctM | (subst h; conv => whnf) | (conv => whnf)) | refine stB ⟨?_⟩ ⟨?_⟩ | (refine Exists.intro ({k : Nat // NdK l i k}) (Exists.intro (fun ⟨k, hk⟩ => mkS Tryz.f95.ntmps [(0, .dat (.seq .intss l)), (3, .dat (.i i)), (5, .dat (.seq .intss l)), (6, .dat (.i l.length)), (7, .dat (.i i)), (10, .dat (.i i)), (11, .dat (.i k))] []) (Exists.intro (fun ⟨k, hk⟩ => i - k) (Exists.intro ⟨0, ?_⟩ (And.intro (SubP.sub (σ := []) ⟨⟨rfl, rfl, rfl⟩, ⟨(qab ?_), (qab ?_), (qab ?_), (qab ?_), (qab ?_), (qab ?_), (qab ?_), trivial⟩, trivial⟩) (fun ⟨k, hk⟩ => ?_))))); rotate_right; conv => whnf) | (refine Exists.intro (⟨k + 1, ?_⟩ : {k : Nat // NdK l i k}) (And.intro ?_ (SubP.sub (σ := []) ⟨⟨rfl, rfl, rfl⟩, ⟨(qab ?_), (qab ?_), (qab ?_), (qab ?_), (qab ?_), (qab ?_), (qab ?_), trivial⟩, trivial⟩))) | (refine Exists.intro ({i : Nat // NdI l i}) (Exists.intro (fun ⟨i, hi⟩ => mkS Tryz.f95.ntmps [(0, .dat (.seq .intss l)), (5, .dat (.seq .intss l)), (6, .dat (.i l.length)), (7, .dat (.i i))] []) (Exists.intro (fun ⟨i, hi⟩ => l.length - i) (Exists.intro ⟨0, ?_⟩ (And.intro (SubP.sub (σ := []) ⟨⟨rfl, rfl, rfl⟩, ⟨(qab ?_), (qab ?_), (qab ?_), (qab ?_), trivial⟩, trivial⟩) (fun ⟨i, hi⟩ => ?_))))); rotate_right; conv => whnf) | (refine Exists.intro (⟨i + 1, ?_⟩ : {i : Nat // NdI l i}) (And.intro ?_ (SubP.sub (σ := []) ⟨⟨rfl, rfl, rfl⟩, ⟨(qab ?_), (qab ?_), (qab ?_), (qab ?_), trivial⟩, trivial⟩))) | ((with_reducible show Exists _); refine Exists.intro _ (And.intro (i_sameJob ..) (And.intro rfl ?_)); rotate_right; conv => whnf) | (intro h; conv => whnf))
  all_goals repeat clear hK K1
  all_goals first | exact True.intro | (with_reducible exact nd_0) | (with_reducible exact nk_0 asmR) | (with_reducible exact nk_s hk asmR asmR) | (with_reducible exact ni_s hi hk asmR) | exact congrArg Dat.bool (decide_eq_false (nd_n hk asmR asmR)) | exact congrArg Dat.bool (decide_eq_true (nd_y hi asmR)) | ((with_reducible show (_ : Int) ≤ _); omega) | ((with_reducible show (_ : Int) < _); have q := hk.il; omega) | ((with_reducible show (_ : Int) < _); omega) | ((with_reducible show (_ : Nat) < _); (dsimp only; omega)) | exact rfl | exact congrArg (Dat.int .i64) (qan asmR asmR).symm | (have q := hk.il; exact congrArg (Dat.int .i64) (qan (m := l.length) omG asmR).symm) | skip
theorem all_job {p : V.Prog} {f : Int} {l : List (List Int)} {k : Nat} (hall : (l.take k).all (qdd p f) = true) (h : (k : Int) < l.length) (h1 : qbx (l.getD (k : Int).toNat K.intss.dflt) = true)
    (h2 : (pwF p (l.getD (k : Int).toNat K.intss.dflt) f.toNat (startP p) 0).2 = List.length (l.getD (k : Int).toNat K.intss.dflt)) : (l.take (k + 1)).all (qdd p f) = true := by
  rw [Int.toNat_natCast] at h1 h2
  rw [qc2 K.intss.dflt h, hall, Bool.true_and]
  unfold qdd
  rw [h1, decide_eq_true h2]; rfl
theorem no_job1 {p : V.Prog} {f : Int} {l : List (List Int)} {k : Nat} (h : (k : Int) < l.length) (h1 : qbx (l.getD (k : Int).toNat K.intss.dflt) = false) : l.all (qdd p f) = false := by
  rw [Int.toNat_natCast] at h1
  exact qg2 (d := K.intss.dflt) h (by unfold qdd; rw [h1]; rfl)
theorem no_job2 {p : V.Prog} {f : Int} {l : List (List Int)} {k : Nat} (h : (k : Int) < l.length) (h2 : ¬ (pwF p (l.getD (k : Int).toNat K.intss.dflt) f.toNat (startP p) 0).2 = List.length (l.getD (k : Int).toNat K.intss.dflt)) : l.all (qdd p f) = false := by
  rw [Int.toNat_natCast] at h2
  exact qg2 (d := K.intss.dflt) h (by unfold qdd; rw [decide_eq_false h2, Bool.and_false])
theorem all_idle {e : List (List Int)} {b : List Bool} : ∀ {k m : Nat}, qde e b k = false → k ≤ m → qde e b m = false
  | k, 0, h, hm => by obtain rfl : k = 0 := by omega
                      exact h
  | k, m + 1, h, hm => by
    by_cases c : k = m + 1
    · subst c; exact h
    · rw [qde, all_idle (m := m) h omG, Bool.false_and]
theorem qf2 {e : List (List Int)} {b : List Bool} {k : Nat} : qde e b (k + 1) = (qde e b k && (b.getD k K.bools.dflt || decide ((e.getD k K.intss.dflt).length = 0))) := rfl
theorem al_len {o e : List (List Int)} {b : List Bool} {d : List (List Int)} : (qdz o e b d).length = o.length + (qa6 e b e.length).length + d.length := by
  unfold qdz
  rw [List.length_append, List.length_append]
theorem id_bad {e : List (List Int)} {b : List Bool} {k : Nat} (h : (k : Int) < e.length) (h1 : b.getD (k : Int).toNat K.bools.dflt = false) (h2 : ¬ (List.length (e.getD (k : Int).toNat K.intss.dflt) : Int) = 0) : qde e b e.length = false := by
  rw [Int.toNat_natCast] at h1 h2
  refine all_idle (k := k + 1) ?_ omG
  rw [qf2, h1, decide_eq_false omG, Bool.or_false, Bool.and_false]
theorem id_end {e : List (List Int)} {b : List Bool} {k : Nat} (h : qde e b k = true) (h1 : ¬ (k : Int) < e.length) (h2 : k ≤ e.length) : qde e b e.length = true := by
  obtain rfl : k = e.length := by omega
  exact h
theorem no_don {p : V.Prog} {f : Int} {d : List (List Int)} {n : Nat} (h : (n : Int) < d.length) (h1 : qhg p f (d.getD (n : Int).toNat K.intss.dflt) = true) : d.all (fun j => !qhg p f j) = false := by
  rw [Int.toNat_natCast] at h1
  exact qg2 (d := K.intss.dflt) h (by show (!qhg p f _) = false; rw [h1]; rfl)
theorem len_at {d : List (List Int)} {n : Nat} (hj : d.all (fun j => decide (j.length ≤ 1048576)) = true) (h : (n : Int) < d.length) : List.length (d.getD (n : Int).toNat K.intss.dflt) ≤ 1048576 := by
  rw [Int.toNat_natCast, qkc (show n < d.length by omega)]
  exact of_decide_eq_true (List.all_eq_true.1 hj _ (List.getElem_mem omG))
theorem qk3 {p : V.Prog} {f : Int} {o e : List (List Int)} {b : List Bool} {d : List (List Int)} {n : Nat} (ha : (qdz o e b d).all (qdd p f) = true) (h : (n : Int) < d.length) : qbx (d.getD (n : Int).toNat K.intss.dflt) = true := by
  rw [Int.toNat_natCast, qkc (show n < d.length by omega)]
  have := List.all_eq_true.1 ha (d[n]'omG) (by unfold qdz; exact List.mem_append_right _ (List.getElem_mem _))
  unfold qdd at this
  rw [Bool.and_eq_true] at this
  exact this.1
theorem i_PoolOk (w mem inn : Int) (code : List V.Ins) (f : Int) (o e : List (List Int)) (b : List Bool) (d : List (List Int)) (hol : o.length ≤ 1048576) (hdl : d.length ≤ 1048576) (hj : d.all (fun j => decide (j.length ≤ 1048576)) = true) : CallsV Tryz.prog 54 [.agg [.dat (.i w), .dat (.i mem), .dat (.i inn), .dat (.seq .inss code)], .agg [.dat (.i f), .dat (.seq .intss o), .dat (.seq .intss e), .dat (.seq .bools b), .dat (.seq .intss d)]] (.dat (.bool (qjv ⟨w, mem, inn, code⟩ f o e b d))) := by
  refine oV Tryz.func54 ⟨?_⟩
  repeat' (first | ((with_reducible refine fun (K1 : KT) hK => ?_); refine stW ⟨?_⟩) | ((with_reducible show K1 _ _); subst hK; conv => whnf) | (with_reducible exact rfl) | refine st0 ⟨?_⟩ | ((with_reducible refine SplS.mk (fun h => ?_) (fun h => ?_)) <;> first | exact ctM | ((fail_if_success (have _x : @Eq Bool _ _ := h)); subst h; conv => whnf) | (conv => whnf)) | refine stB ⟨?_⟩ ⟨?_⟩ | (refine Exists.intro ({n : Nat // n ≤ d.length ∧ (d.take n).all (fun j => !qhg ⟨w, mem, inn, code⟩ f j) = true}) (Exists.intro (fun ⟨n, hn⟩ => mkS Tryz.f54.ntmps [(2, .ptr 2 0), (3, .ptr 3 0), (7, .dat (.seq .intss (qdz o e b d))), (101, .dat (.seq .intss d)), (102, .dat (.i d.length)), (103, .dat (.i n))] [(2, .box [.dat (.i w), .dat (.i mem), .dat (.i inn), .dat (.seq .inss code)]), (3, .box [.dat (.i f), .dat (.seq .intss o), .dat (.seq .intss e), .dat (.seq .bools b), .dat (.seq .intss d)])]) (Exists.intro (fun ⟨n, hn⟩ => d.length - n) (Exists.intro ⟨0, ?_⟩ (And.intro (SubP.sub (σ := [(2, some 2), (3, some 3)]) ⟨⟨rfl, rfl, rfl⟩, ⟨⟨rfl, rfl⟩, ⟨rfl, rfl⟩, (qab ?_), (qab ?_), (qab ?_), (qab ?_), trivial⟩, ⟨⟨(qaa ?_), (qaa ?_), (qaa ?_), (qaa ?_), trivial⟩, ⟨(qaa ?_), (qaa ?_), (qaa ?_), (qaa ?_), (qaa ?_), trivial⟩, trivial⟩⟩) (fun ⟨n, hn⟩ => ?_))))); rotate_right; conv => whnf) | (refine Exists.intro (⟨n + 1, ?_⟩ : {n : Nat // n ≤ d.length ∧ (d.take n).all (fun j => !qhg ⟨w, mem, inn, code⟩ f j) = true}) (And.intro ?_ (SubP.sub (σ := [(2, some 2), (3, some 3)]) ⟨⟨rfl, rfl, rfl⟩, ⟨⟨rfl, rfl⟩, ⟨rfl, rfl⟩, (qab ?_), (qab ?_), (qab ?_), (qab ?_), trivial⟩, ⟨⟨(qaa ?_), (qaa ?_), (qaa ?_), (qaa ?_), trivial⟩, ⟨(qaa ?_), (qaa ?_), (qaa ?_), (qaa ?_), (qaa ?_), trivial⟩, trivial⟩⟩))) | (refine Exists.intro ({m : Nat // m ≤ (qdz o e b d).length ∧ ((qdz o e b d).take m).all (qdd ⟨w, mem, inn, code⟩ f) = true}) (Exists.intro (fun ⟨m, hm⟩ => mkS Tryz.f54.ntmps [(2, .ptr 2 0), (3, .ptr 3 0), (7, .dat (.seq .intss (qdz o e b d))), (78, .dat (.seq .intss (qdz o e b d))), (79, .dat (.i (qdz o e b d).length)), (80, .dat (.i m))] [(2, .box [.dat (.i w), .dat (.i mem), .dat (.i inn), .dat (.seq .inss code)]), (3, .box [.dat (.i f), .dat (.seq .intss o), .dat (.seq .intss e), .dat (.seq .bools b), .dat (.seq .intss d)])]) (Exists.intro (fun ⟨m, hm⟩ => (qdz o e b d).length - m) (Exists.intro ⟨0, ?_⟩ (And.intro (SubP.sub (σ := [(2, some 2), (3, some 3)]) ⟨⟨rfl, rfl, rfl⟩, ⟨⟨rfl, rfl⟩, ⟨rfl, rfl⟩, (qab ?_), (qab ?_), (qab ?_), (qab ?_), trivial⟩, ⟨⟨(qaa ?_), (qaa ?_), (qaa ?_), (qaa ?_), trivial⟩, ⟨(qaa ?_), (qaa ?_), (qaa ?_), (qaa ?_), (qaa ?_), trivial⟩, trivial⟩⟩) (fun ⟨m, hm⟩ => ?_))))); rotate_right; conv => whnf) | (refine Exists.intro (⟨m + 1, ?_⟩ : {m : Nat // m ≤ (qdz o e b d).length ∧ ((qdz o e b d).take m).all (qdd ⟨w, mem, inn, code⟩ f) = true}) (And.intro ?_ (SubP.sub (σ := [(2, some 2), (3, some 3)]) ⟨⟨rfl, rfl, rfl⟩, ⟨⟨rfl, rfl⟩, ⟨rfl, rfl⟩, (qab ?_), (qab ?_), (qab ?_), (qab ?_), trivial⟩, ⟨⟨(qaa ?_), (qaa ?_), (qaa ?_), (qaa ?_), trivial⟩, ⟨(qaa ?_), (qaa ?_), (qaa ?_), (qaa ?_), (qaa ?_), trivial⟩, trivial⟩⟩))) | (refine Exists.intro ({k : Nat // k ≤ e.length ∧ qde e b k = true}) (Exists.intro (fun ⟨k, hk⟩ => mkS Tryz.f54.ntmps [(2, .ptr 2 0), (3, .ptr 3 0), (53, .dat (.seq .intss e)), (54, .dat (.i e.length)), (55, .dat (.i k))] [(2, .box [.dat (.i w), .dat (.i mem), .dat (.i inn), .dat (.seq .inss code)]), (3, .box [.dat (.i f), .dat (.seq .intss o), .dat (.seq .intss e), .dat (.seq .bools b), .dat (.seq .intss d)])]) (Exists.intro (fun ⟨k, hk⟩ => e.length - k) (Exists.intro ⟨0, ?_⟩ (And.intro (SubP.sub (σ := [(2, some 2), (3, some 3)]) ⟨⟨rfl, rfl, rfl⟩, ⟨⟨rfl, rfl⟩, ⟨rfl, rfl⟩, (qab ?_), (qab ?_), (qab ?_), trivial⟩, ⟨⟨(qaa ?_), (qaa ?_), (qaa ?_), (qaa ?_), trivial⟩, ⟨(qaa ?_), (qaa ?_), (qaa ?_), (qaa ?_), (qaa ?_), trivial⟩, trivial⟩⟩) (fun ⟨k, hk⟩ => ?_))))); rotate_right; conv => whnf) | (refine Exists.intro (⟨k + 1, ?_⟩ : {k : Nat // k ≤ e.length ∧ qde e b k = true}) (And.intro ?_ (SubP.sub (σ := [(2, some 2), (3, some 3)]) ⟨⟨rfl, rfl, rfl⟩, ⟨⟨rfl, rfl⟩, ⟨rfl, rfl⟩, (qab ?_), (qab ?_), (qab ?_), trivial⟩, ⟨⟨(qaa ?_), (qaa ?_), (qaa ?_), (qaa ?_), trivial⟩, ⟨(qaa ?_), (qaa ?_), (qaa ?_), (qaa ?_), (qaa ?_), trivial⟩, trivial⟩⟩))) | ((with_reducible first | refine pcI (g := 63) ?_ | show Exists _); refine ⟨_, qo7 .., rfl, ?_⟩; rotate_right; conv => whnf) | ((with_reducible first | refine pcI (g := 33) ?_ | show Exists _); refine ⟨_, i_fuelOk .., rfl, ?_⟩; rotate_right; conv => whnf) | ((with_reducible first | refine pcI (g := 91) ?_ | show Exists _); refine ⟨_, i_allJobs (ho := ?_) (he := ?_) (hb := ?_) (hd := ?_) .., rfl, ?_⟩; rotate_right; conv => whnf) | ((with_reducible first | refine pcI (g := 92) ?_ | show Exists _); refine ⟨_, i_turnsOk .., rfl, ?_⟩; rotate_right; conv => whnf) | ((with_reducible first | refine pcI (g := 93) ?_ | show Exists _); refine ⟨_, qku (hp := ?_) (ht := ?_) (hf := ?_) (hf2 := ?_) .., rfl, ?_⟩; rotate_right; conv => whnf) | ((with_reducible first | refine pcI (g := 94) ?_ | show Exists _); refine ⟨_, i_atFork (hp := ?_) (ht := ?_) (hf := ?_) (hf2 := ?_) (hj := ?_) .., rfl, ?_⟩; rotate_right; conv => whnf) | ((with_reducible first | refine pcI (g := 95) ?_ | show Exists _); refine ⟨_, qj3 .., rfl, ?_⟩; rotate_right; conv => whnf) | (intro h; conv => whnf))
  all_goals repeat clear hK K1
  all_goals (have hw : IntKind.i64.wrap ((o.length : Int) + d.length) = o.length + d.length := qac omG omG; (try simp only [hw] at *); have hbl := qg0 e b e.length; have hal : (qdz o e b d).length = o.length + (qa6 e b e.length).length + d.length := al_len)
  all_goals first | exact True.intro | (with_reducible exact hal ▸ rfl) | ((with_reducible show (_ : Int) ≤ _); first | omega | (have q := inP_iff.1 (show inP f 0 400 = true by with_reducible assumption); omega)) | ((with_reducible show (_ : Int) < _); omega) | ((with_reducible show (_ : Nat) < _); ((try dsimp only); omega)) | exact congrArg (Dat.int .i64) (qan asmR asmR).symm | (with_reducible assumption) | (with_reducible exact all_job hm.2 asmR asmR (of_decide_eq_true asmR)) | (rw [qf2, hk.2]; simp only [Int.toNat_natCast] at *; (first | (rw [show b.getD k K.bools.dflt = true by with_reducible assumption]; rfl) | (rw [decide_eq_true (show (e.getD k K.intss.dflt).length = 0 by omega), Bool.or_true]; rfl))) | (simp only [Int.toNat_natCast] at *; rw [qc2 K.intss.dflt asmR, hn.2, show qhg ⟨w, mem, inn, code⟩ f (d.getD n K.intss.dflt) = false by with_reducible assumption]; rfl) | ((with_reducible show qbx _ = true); exact qk3 (qdh asmR hm.2) asmR) | (exact len_at hj asmR) | exact rfl | (refine congrArg Dat.bool (pool_n (fun q => ?_)); first | exact Bool.noConfusion (q.hp.symm.trans asmR) | exact Bool.noConfusion (q.hf.symm.trans asmR) | (have q1 := q.hb; have q2 := q.hh; have q3 := q.al; omega) | exact Bool.noConfusion (q.jobs.symm.trans (no_job1 asmR asmR)) | exact Bool.noConfusion (q.jobs.symm.trans (no_job2 asmR (of_decide_eq_false asmR))) | exact Bool.noConfusion (q.don.symm.trans (no_don asmR asmR)) | exact Bool.noConfusion (q.idle.symm.trans (id_bad asmR asmR omG))) | (refine congrArg Dat.bool ?_; by_cases hn2 : (qdz o e b d).Nodup <;> first | (rw [decide_eq_true hn2]; exact pool_y ⟨asmR, asmR, ⟨by omega, by omega⟩, by omega, id_end hk.2 asmR hk.1, by omega, qdh asmR hm.2, qdh asmR hn.2, hn2⟩) | (rw [decide_eq_false hn2]; exact pool_n (fun q => hn2 q.nod))) | ((with_reducible show _ ≤ _); omega) | skip
end Vg
