/- Walks and laws that the proof leans on. No condition. -/
import Derived.Test.YtgmpfaennbojaaaGreatTermMB
import Derived.Test.YtgmpfaennbojaaaGreatTermRd
import Derived.Test.YtgmpfaennbojaaaGreatTermMBA
import Derived.Test.YtgmpfaennbojaaaGreatTermMBB
import Derived.Test.YtgmpfaennbojaaaGreatTermMBC
import Derived.Test.YtgmpfaennbojaaaGreatTermMBD
namespace Vg
open Go Go.Proofs
theorem c0_w {t : V.Term} (ht : okT t = true) (ho : t.op = 17) : (k0 t).op = 0 → (k0 t).n = 0 ∨ (k0 t).n = 1 := by
  intro h
  by_cases c : (k0 t).n = 1
  · exact .inr c
  · exact .inl (bit_w (ok0 ht (by omega)) h (fit_i ht ho).1 c)
set_option maxHeartbeats 8000000 in
set_option maxRecDepth 100000 in
theorem s_l02If (t : V.Term) (ih : IHM (meas t)) (ht : okT t = true) (ho : t.op = 17) (hc : allC t.kids = false) : CallsV Tryz.prog 57 [.agg [.dat (.i t.op), .dat (.i t.w), .dat (.i t.n), .dat (.str t.name), .dat (.seq .terms t.kids)]] (datT (mkT t)) := by
  refine CallsV.of_awp tauOk mixOk Tryz.func57 rfl rfl rfl ?_
  conv => whnf
  repeat' (first | ((with_reducible refine fun (K1 : AX → AState → Prop) hK => ?_); refine stW ⟨?_⟩) | ((with_reducible show K1 _ _); subst hK; conv => whnf) | (with_reducible refine frG ?_) | (with_reducible exact rfl) | refine stD ⟨?_⟩ | refine st0 ⟨?_⟩ | ((with_reducible refine SplS.mk (fun h => ?_) (fun h => ?_)) <;> first | exact ctA | (subst h; conv => whnf) | (conv => whnf)) | ((with_reducible refine SplB.mk (fun h => ?_) (fun h => ?_)) <;> first | exact ctR | (conv => whnf)) | (with_reducible first | refine bnd2 ?_ ?_ | refine bnd2' ?_ ?_ | refine bndN ?_ ?_) | ((with_reducible refine and_of ?_ ?_); conv => whnf) | ((with_reducible refine pcI (g := 75) ?_); refine ⟨_, s_l02Is .., rfl, ?_⟩; rotate_right; conv => whnf) | ((with_reducible show Exists _); refine Exists.intro _ (And.intro (s_l02Is ..) (And.intro rfl ?_)); rotate_right; conv => whnf) | ((with_reducible refine pcI (g := 59) ?_); refine ⟨_, s_l02Same .., rfl, ?_⟩; rotate_right; conv => whnf) | ((with_reducible show Exists _); refine Exists.intro _ (And.intro (s_l02Same ..) (And.intro rfl ?_)); rotate_right; conv => whnf) | ((with_reducible refine pcI (g := 41) ?_); refine ⟨_, ih_mk (ih := by assumption) (hk := ?_) (hm := ?_) .., rfl, ?_⟩; rotate_right; conv => whnf) | ((with_reducible show Exists _); refine Exists.intro _ (And.intro (ih_mk (ih := by assumption) (hk := ?_) (hm := ?_) ..) (And.intro rfl ?_)); rotate_right; conv => whnf) | ((with_reducible refine zcI (g := 75) ?_); (conv => whnf); refine ⟨_, _, s_l02Is .., rfl, fun res B hRB => ?_⟩; rotate_right; obtain ⟨rfl, rfl⟩ := hRB; conv => whnf) | ((with_reducible refine zcI (g := 59) ?_); (conv => whnf); refine ⟨_, _, s_l02Same .., rfl, fun res B hRB => ?_⟩; rotate_right; obtain ⟨rfl, rfl⟩ := hRB; conv => whnf) | ((with_reducible refine zcI (g := 41) ?_); (conv => whnf); refine ⟨_, _, ih_mk (ih := by with_reducible assumption) (hk := ?_) (hm := ?_) .., rfl, fun res B hRB => ?_⟩; rotate_right; obtain ⟨rfl, rfl⟩ := hRB; conv => whnf) | (intro h; conv => whnf))
  all_goals (repeat (clear hK; clear K1))
  all_goals first | exact True.intro | ((with_reducible show (_ : Int) ≤ _); omega) | ((with_reducible show (_ : Int) < _); first | exact lt_u0 ht (by omega) | exact lt_i0 ht (by omega) | exact lt_i1 ht (by omega) | exact lt_i2 ht (by omega) | exact lt_u0 (ok0 ht (by omega)) (by omega) | exact lt_b0 (ok0 ht (by omega)) (by omega) | exact lt_b1 (ok0 ht (by omega)) (by omega) | exact lt_i0 (ok0 ht (by omega)) (by omega) | exact lt_i1 (ok0 ht (by omega)) (by omega) | exact lt_i2 (ok0 ht (by omega)) (by omega) | exact lt_u0 (ok1 ht (by omega)) (by omega) | exact lt_i0 (ok1 ht (by omega)) (by omega) | exact lt_i1 (ok1 ht (by omega)) (by omega) | exact lt_i2 (ok1 ht (by omega)) (by omega) | omega) | (have q0 := c0_w ht ho; (simp only [V.Term.eta, Int.toNat_zero, Int.toNat_one, tn2, k0, kAt] at *; (try (refine ⟨fr5 (t := mkT t) ?_⟩; (try rw [V.Term.eta]))); first | omega | (obtain ⟨y, hr⟩ : ∃ y, redS t = y := ⟨_, rfl⟩; have hz := hr; unfold redS redI at hz; simp only [k0, k1, k2, kAt] at hz; (repeat (first | rw [if_pos (by omega)] at hz | rw [if_neg (by omega)] at hz | rw [if_pos (by unfold swaps; omega)] at hz | rw [if_neg (by unfold swaps; omega)] at hz)); rw [← hz] at hr; (try rw [ho] at hr); first | exact lf_e ht (by omega) hc hr | exact ⟨fr5n (t := mkT t) (lf_e ht (by omega) hc hr)⟩ | exact (red_ok ht (by omega) hr).1 | exact (red_ok ht (by omega) hr).2))) | skip
end Vg

namespace Vg
open Go Go.Proofs
set_option maxHeartbeats 8000000 in
set_option maxRecDepth 100000 in
theorem s_l02Cut (t : V.Term) (ih : IHM (meas t)) (ht : okT t = true) (ho : t.op = 19) (hc : allC t.kids = false) : CallsV Tryz.prog 58 [.agg [.dat (.i t.op), .dat (.i t.w), .dat (.i t.n), .dat (.str t.name), .dat (.seq .terms t.kids)]] (datT (mkT t)) := by
  refine CallsV.of_awp tauOk mixOk Tryz.func58 rfl rfl rfl ?_
  conv => whnf
  repeat' (first | ((with_reducible refine fun (K1 : AX → AState → Prop) hK => ?_); refine stW ⟨?_⟩) | ((with_reducible show K1 _ _); subst hK; conv => whnf) | (with_reducible refine frG ?_) | (with_reducible exact rfl) | refine st0 ⟨?_⟩ | ((with_reducible refine SplS.mk (fun h => ?_) (fun h => ?_)) <;> first | exact ctA | (subst h; conv => whnf) | (conv => whnf)) | ((with_reducible refine SplB.mk (fun h => ?_) (fun h => ?_)) <;> first | exact ctR | (conv => whnf)) | (with_reducible first | refine bnd2 ?_ ?_ | refine bnd2' ?_ ?_ | refine bndN ?_ ?_) | ((with_reducible refine and_of ?_ ?_); conv => whnf) | ((with_reducible show Exists _); refine Exists.intro _ (And.intro (s_l02Bit (ih := by assumption) (hk := ?_) (hm := ?_) ..) (And.intro rfl ?_)); rotate_right; conv => whnf) | ((with_reducible show Exists _); refine Exists.intro _ (And.intro (s_l01In ..) (And.intro rfl ?_)); rotate_right; conv => whnf) | (intro h; conv => whnf))
  all_goals (repeat (clear hK; clear K1))
  all_goals first | exact True.intro | ((with_reducible show (_ : Int) ≤ _); omega) | ((with_reducible show (_ : Int) < _); first | exact lt_u0 ht (by omega) | exact lt_b0 ht (by omega) | exact lt_b1 ht (by omega) | exact lt_u0 (ok0 ht (by omega)) (by omega) | exact lt_u0 (ok0 ht (by omega)) (by have h := inP_iff.1 (show inP (t.kids.getD (Int.toNat 0) K.terms.dflt).op 20 21 = true by with_reducible assumption); have e : (t.kids.getD (Int.toNat 0) K.terms.dflt).op = (k0 t).op := rfl; omega) | exact lt_b0 (ok0 ht (by omega)) (by omega) | exact lt_b1 (ok0 ht (by omega)) (by omega) | exact lt_i0 (ok0 ht (by omega)) (by omega) | exact lt_i1 (ok0 ht (by omega)) (by omega) | exact lt_i2 (ok0 ht (by omega)) (by omega) | exact lt_u0 (ok1 ht (by omega)) (by omega) | exact lt_b0 (ok1 ht (by omega)) (by omega) | exact lt_b1 (ok1 ht (by omega)) (by omega) | exact lt_i0 (ok1 ht (by omega)) (by omega) | exact lt_i1 (ok1 ht (by omega)) (by omega) | exact lt_i2 (ok1 ht (by omega)) (by omega) | omega) | (have b0 := fit_c ht (by omega); have wt := okT_w ht; have w0 := okT_w (ok0 ht (by omega)); have c0 := fun h => fit_c (ok0 ht (by omega)) h; have v0 := fun h => okT_w (ok1 (ok0 ht (by omega)) h); have v1 := fun h => okT_w (ok0 (ok0 ht (by omega)) h); (try simp only [inP, Bool.and_eq_true, Bool.and_eq_false_iff, decide_eq_true_eq, decide_eq_false_iff_not] at *); (simp only [V.Term.eta, Int.toNat_zero, Int.toNat_one, k0, k1, kAt] at *; (try simp only [wrap_id (n := t.n + t.w) (by omega) (by omega)] at *); (try simp only [wrap_id (n := t.n + (t.kids.getD 0 K.terms.dflt).n) (by omega) (by omega)] at *); (try simp only [wrap_id (n := t.n - ((t.kids.getD 0 K.terms.dflt).kids.getD 1 K.terms.dflt).w) (by omega) (by omega)] at *); (try (refine ⟨fr5 (t := mkT t) ?_⟩; (try rw [V.Term.eta]))); first | omega | (obtain ⟨y, hr⟩ : ∃ y, redS t = y := ⟨_, rfl⟩; have hz := hr; unfold redS redC at hz; simp only [k0, k1, kAt] at hz; (repeat (first | rw [if_pos (by omega)] at hz | rw [if_neg (by omega)] at hz | rw [if_pos (by unfold swaps; omega)] at hz | rw [if_neg (by unfold swaps; omega)] at hz)); rw [← hz] at hr; (try rw [ho] at hr); first | exact lf_e ht (by omega) hc hr | exact ⟨fr5n (t := mkT t) (lf_e ht (by omega) hc hr)⟩ | exact (red_ok ht (by omega) hr).1 | exact (red_ok ht (by omega) hr).2))) | skip
end Vg

namespace Vg
open Go Go.Proofs
theorem s_l02Two (t : V.Term) (ih : IHM (meas t)) (ht : okT t = true) (ho : inP t.op 3 16 = true) (hc : allC t.kids = false) :
    CallsV Tryz.prog 56 [.agg [.dat (.i t.op), .dat (.i t.w), .dat (.i t.n), .dat (.str t.name), .dat (.seq .terms t.kids)]] (datT (mkT t)) := by
  rw [inP_iff] at ho
  have c : t.op = 3 ∨ t.op = 4 ∨ t.op = 5 ∨ t.op = 6 ∨ t.op = 7 ∨ t.op = 8 ∨ t.op = 9 ∨ t.op = 10 ∨ t.op = 11 ∨ t.op = 12 ∨ t.op = 13 ∨ t.op = 14 ∨ t.op = 15 ∨ t.op = 16 := by omega
  rcases c with h | h | h | h | h | h | h | h | h | h | h | h | h | h <;> rw [h]
  · exact s_T3 t ih ht h hc
  · exact s_T4 t ih ht h hc
  · exact s_T5 t ih ht h hc
  · exact s_T6 t ih ht h hc
  · exact s_T7 t ih ht h hc
  · exact s_T8 t ih ht h hc
  · exact s_T9 t ih ht h hc
  · exact s_T10 t ih ht h hc
  · exact s_T11 t ih ht h hc
  · exact s_T12 t ih ht h hc
  · exact s_T13 t ih ht h hc
  · exact s_T14 t ih ht h hc
  · exact s_T15 t ih ht h hc
  · exact s_T16 t ih ht h hc
theorem wdK {t : V.Term} (ht : okT t = true) (ho : t.op = 20 ∨ t.op = 21) (h : (k0 t).op = t.op) : oT t.op t.w 0 [k0 (k0 t)] = oT t.op t.w 0 (k0 t).kids := by
  have e := ks1 (len_u (ok0 ht (by omega)) (by omega))
  rw [oT, oT, ← e]
theorem jnK {t : V.Term} (ht : okT t = true) (ho : t.op = 18) (h : (k1 t).op = 19) : oT 19 t.w (k1 t).n [k0 (k1 t)] = oT 19 t.w (k1 t).n (k1 t).kids := by
  have e := ks1 (len_u (ok1 ht (by omega)) (by omega))
  rw [oT, oT, ← e]
theorem jn_wrap {t : V.Term} (ht : okT t = true) (h18 : t.op = 18) (h1 : (t.kids.getD (Int.toNat 1) K.terms.dflt).op = 19) :
    IntKind.i64.wrap ((t.kids.getD (Int.toNat 1) K.terms.dflt).n + (t.kids.getD (Int.toNat 1) K.terms.dflt).w) = (t.kids.getD (Int.toNat 1) K.terms.dflt).n + (t.kids.getD (Int.toNat 1) K.terms.dflt).w := by
  have e : (t.kids.getD (Int.toNat 1) K.terms.dflt) = k1 t := rfl
  rw [e] at h1 ⊢
  have c1 := fit_c (ok1 ht (by omega)) h1
  have w1 := okT_w (ok1 ht (by omega))
  have v1 := okT_w (ok0 (ok1 ht (by omega)) (by omega))
  exact wrap_id (by omega) (by omega)
theorem gt_allC {t : V.Term} {k : Nat} {b : Bool} (hk : k ≤ t.kids.length) (h : ¬ (k : Int) < t.kids.length) (e : (decide ((t.kids.length : Int) > 0) && allC (t.kids.take k)) = b) (h0 : t.kids ≠ []) : allC t.kids = b := by
  rw [List.take_of_length_le (by omega)] at e
  have : 0 < t.kids.length := List.length_pos_iff.2 h0
  rw [decide_eq_true (by omega), Bool.true_and] at e
  exact e
theorem len3 {t : V.Term} (ht : okT t = true) : t.kids.length ≤ 3 := by
  have := (okT_n ht).len
  unfold kidN at this
  repeat' split at this
  all_goals omega
theorem kids_ne {t : V.Term} (ht : okT t = true) (ho : 1 ≤ t.op ∧ t.op ≤ 21) : t.kids ≠ [] := by
  intro e
  have h1 := len_u ht
  have h2 := len_b ht
  have h3 := len_i ht
  rw [e] at h1 h2 h3
  simp only [List.length_nil] at h1 h2 h3
  omega
theorem kids_no {t : V.Term} (ht : okT t = true) (ho : ¬ (1 ≤ t.op ∧ t.op ≤ 21)) : t.kids.length = 0 := by
  have := (okT_n ht).len
  have h2 := okT_op ht
  unfold kidN at this
  rw [if_pos (by omega)] at this
  omega
theorem inP_no {n a b : Int} (h : inP n a b = false) : ¬ (a ≤ n ∧ n ≤ b) := fun q => by rw [inP_iff.2 q] at h; cases h
theorem kn_y {n : Int} {b : Bool} (h : (decide (n > 0) && b) = true) : n > 0 := by rw [Bool.and_eq_true] at h; exact of_decide_eq_true h.1
theorem mk_bt {ks : List V.Term} {k : Nat} (hk : (k : Int) < ks.length) (h : (decide ((ks.length : Int) > 0) && allC (ks.take k)) = true) : Dat.bool (decide ((ks.length : Int) > 0) && allC (ks.take (k + 1))) = Dat.bool ((ks.getD (k : Int).toNat K.terms.dflt).op == 0) := by
  rw [Bool.and_eq_true] at h
  rw [h.1, Bool.true_and]
  exact ac_t hk h.2
theorem mk_bf {ks : List V.Term} {k : Nat} (hk : (k : Int) < ks.length) (h : (decide ((ks.length : Int) > 0) && allC (ks.take k)) = false) : Dat.bool (decide ((ks.length : Int) > 0) && allC (ks.take (k + 1))) = Dat.bool false := by
  rw [decide_eq_true (by omega), Bool.true_and] at h ⊢
  exact ac_f hk h
theorem mk_b0 (ks : List V.Term) : Dat.bool (decide ((ks.length : Int) > 0) && allC (ks.take 0)) = Dat.bool (decide ((ks.length : Int) > 0)) := by
  rw [allC_0, Bool.and_true]
theorem nums_s {ks : List V.Term} {k : Nat} (hk : (k : Int) < ks.length) : nums (ks.take (k + 1)) = nums (ks.take k) ++ [(ks.getD (k : Int).toNat K.terms.dflt).n] := by
  have h : k < ks.length := by omega
  have e : ks.getD (k : Int).toNat K.terms.dflt = ks[k] := by
    rw [Int.toNat_natCast, List.getD_eq_getElem?_getD, List.getElem?_eq_getElem h]; rfl
  rw [e, List.take_add_one, List.getElem?_eq_getElem h]
  unfold nums
  rw [List.map_append]
  rfl
theorem take_all {ks : List V.Term} {k : Nat} (h : ks.length ≤ k) : ks.take k = ks := List.take_of_length_le h
theorem wr_s {k : Nat} (h : k ≤ 3) : Dat.i ((k + 1 : Nat) : Int) = Dat.int IntKind.i64 (IntKind.i64.wrap ((k : Int) + 1)) := by
  rw [wrap_id (by omega) (by omega)]; rfl
theorem nums_l {ks : List V.Term} {k : Nat} (hk : k ≤ ks.length) : (nums (ks.take k)).length = k := by
  simp [nums]
  omega
set_option maxHeartbeats 8000000 in
set_option maxRecDepth 100000 in
theorem s_mk0 (t : V.Term) (ih : IHM (meas t)) (ht : okT t = true) : CallsV Tryz.prog 41 [.agg [.dat (.i t.op), .dat (.i t.w), .dat (.i t.n), .dat (.str t.name), .dat (.seq .terms t.kids)]] (datT (mkT t)) := by
  refine CallsV.of_awp tauOk mixOk Tryz.func41 rfl rfl rfl ?_
  conv => whnf
  repeat' (first | ((with_reducible refine fun (K1 : AX → AState → Prop) hK => ?_); refine stW ⟨?_⟩) | ((with_reducible show K1 _ _); subst hK; conv => whnf) | (with_reducible refine frG ?_) | (with_reducible exact rfl) | refine st0 ⟨?_⟩ | ((with_reducible refine SplS.mk (fun h => ?_) (fun h => ?_)) <;> first | exact ctA | (subst h; conv => whnf) | (conv => whnf)) | ((with_reducible refine SplB.mk (fun h => ?_) (fun h => ?_)) <;> first | exact ctR | (conv => whnf)) | (with_reducible first | refine bnd2 ?_ ?_ | refine bnd2' ?_ ?_ | refine bndN ?_ ?_) | ((with_reducible refine and_of ?_ ?_); conv => whnf) | (refine Exists.intro ({k : Nat // k ≤ t.kids.length}) (Exists.intro (fun ⟨k, hk⟩ => mkS Tryz.f41.ntmps [(1, .ptr 1 0), (2, .ptr 2 0), (3, .dat (.bool (decide ((t.kids.length : Int) > 0) && allC (t.kids.take k)))), (4, .row 4), (16, .dat (.seq .terms t.kids)), (17, .dat (.i t.kids.length)), (18, .dat (.i k))] [(1, .box [.dat (.i t.op), .dat (.i t.w), .dat (.i t.n), .dat (.str t.name), .dat (.seq .terms t.kids)]), (2, .box [.dat (.i 0), .dat (.i 0), .dat (.i 0), .dat (.str ByteArray.empty), .nils]), (4, .row 3 .ints (nums (t.kids.take k)) false)]) (Exists.intro (fun ⟨k, hk⟩ => t.kids.length - k) (Exists.intro ⟨0, Nat.zero_le _⟩ (And.intro (SubP.sub (σ := [(1, some 1), (2, some 2), (4, some 14)]) ⟨⟨rfl, rfl, rfl⟩, ⟨⟨rfl, rfl⟩, ⟨rfl, rfl⟩, (wk_dat ?_), rfl, (wk_dat ?_), (wk_dat ?_), (wk_dat ?_), trivial⟩, ⟨⟨(wkC_dat ?_), (wkC_dat ?_), (wkC_dat ?_), (wkC_dat ?_), (wkC_dat ?_), trivial⟩, ⟨(wkC_dat ?_), (wkC_dat ?_), (wkC_dat ?_), (wkC_dat ?_), trivial, trivial⟩, ⟨⟨rfl, rfl⟩, ?_⟩, trivial⟩⟩) (fun ⟨k, hk⟩ => ?_))))); rotate_right; conv => whnf) | (refine Exists.intro (⟨k + 1, ?_⟩ : {k : Nat // k ≤ t.kids.length}) (And.intro ?_ (SubP.sub (σ := [(1, some 1), (2, some 2), (4, some 32)]) ⟨⟨rfl, rfl, rfl⟩, ⟨⟨rfl, rfl⟩, ⟨rfl, rfl⟩, (wk_dat ?_), rfl, (wk_dat ?_), (wk_dat ?_), (wk_dat ?_), trivial⟩, ⟨⟨(wkC_dat ?_), (wkC_dat ?_), (wkC_dat ?_), (wkC_dat ?_), (wkC_dat ?_), trivial⟩, ⟨(wkC_dat ?_), (wkC_dat ?_), (wkC_dat ?_), (wkC_dat ?_), trivial, trivial⟩, ⟨⟨rfl, rfl⟩, ?_⟩, trivial⟩⟩))) | ((with_reducible refine pcI (g := 22) ?_); refine ⟨_, s_l02Const .., rfl, ?_⟩; rotate_right; conv => whnf) | ((with_reducible show Exists _); refine Exists.intro _ (And.intro (s_l02Const ..) (And.intro rfl ?_)); rotate_right; conv => whnf) | ((with_reducible refine pcI (g := 55) ?_); refine ⟨_, s_l02Apply (ht := ?_) (ho := ?_) (hx := ?_) .., rfl, ?_⟩; rotate_right; conv => whnf) | ((with_reducible show Exists _); refine Exists.intro _ (And.intro (s_l02Apply (ht := ?_) (ho := ?_) (hx := ?_) ..) (And.intro rfl ?_)); rotate_right; conv => whnf) | ((with_reducible refine pcI (g := 38) ?_); refine ⟨_, s_l01In .., rfl, ?_⟩; rotate_right; conv => whnf) | ((with_reducible show Exists _); refine Exists.intro _ (And.intro (s_l01In ..) (And.intro rfl ?_)); rotate_right; conv => whnf) | ((with_reducible refine pcI (g := 56) ?_); refine ⟨_, s_l02Two (ih := by assumption) (ht := ?_) (ho := ?_) (hc := ?_) .., rfl, ?_⟩; rotate_right; conv => whnf) | ((with_reducible show Exists _); refine Exists.intro _ (And.intro (s_l02Two (ih := by assumption) (ht := ?_) (ho := ?_) (hc := ?_) ..) (And.intro rfl ?_)); rotate_right; conv => whnf) | ((with_reducible refine pcI (g := 57) ?_); refine ⟨_, s_l02If (ih := by assumption) (ht := ?_) (ho := ?_) (hc := ?_) .., rfl, ?_⟩; rotate_right; conv => whnf) | ((with_reducible show Exists _); refine Exists.intro _ (And.intro (s_l02If (ih := by assumption) (ht := ?_) (ho := ?_) (hc := ?_) ..) (And.intro rfl ?_)); rotate_right; conv => whnf) | ((with_reducible refine pcI (g := 58) ?_); refine ⟨_, s_l02Cut (ih := by assumption) (ht := ?_) (ho := ?_) (hc := ?_) .., rfl, ?_⟩; rotate_right; conv => whnf) | ((with_reducible show Exists _); refine Exists.intro _ (And.intro (s_l02Cut (ih := by assumption) (ht := ?_) (ho := ?_) (hc := ?_) ..) (And.intro rfl ?_)); rotate_right; conv => whnf) | ((with_reducible refine pcI (g := 41) ?_); refine ⟨_, ih_mk (ih := by assumption) (hk := ?_) (hm := ?_) .., rfl, ?_⟩; rotate_right; conv => whnf) | ((with_reducible show Exists _); refine Exists.intro _ (And.intro (ih_mk (ih := by assumption) (hk := ?_) (hm := ?_) ..) (And.intro rfl ?_)); rotate_right; conv => whnf) | ((with_reducible refine pcI (g := 59) ?_); refine ⟨_, s_l02Same .., rfl, ?_⟩; rotate_right; conv => whnf) | ((with_reducible show Exists _); refine Exists.intro _ (And.intro (s_l02Same ..) (And.intro rfl ?_)); rotate_right; conv => whnf) | (intro h; conv => whnf))
  all_goals (repeat (clear hK; clear K1))
  all_goals first | exact True.intro | ((with_reducible show (_ : Int) ≤ _); first | omega | (have := okT_op' ht (List.ne_nil_of_length_pos (by have := kn_y (show (decide ((t.kids.length : Int) > 0) && allC (List.take k t.kids)) = true by with_reducible assumption); omega)); omega)) | ((with_reducible show (_ : Int) < _); first | (with_reducible assumption) | exact lt_u0 ht (by omega) | exact lt_b0 ht (by omega) | exact lt_b1 ht (by omega) | exact lt_u0 (ok0 ht (by omega)) (by omega) | exact lt_u0 (ok1 ht (by omega)) (by omega) | exact lt_k00 ht (by omega) (by with_reducible assumption)) | ((with_reducible show (_ : Nat) < _); (dsimp only; omega)) | (with_reducible exact mk_bt (by with_reducible assumption) (by with_reducible assumption)) | (with_reducible exact mk_bf (by with_reducible assumption) (by with_reducible assumption)) | (with_reducible exact mk_b0 _) | (have l3 := len3 ht; exact wr_s (by omega)) | exact congrArg (Sigma.mk K.ints) (nums_s (by with_reducible assumption)) | ((with_reducible show _ * _ ≤ _); have l3 := len3 ht; have l4 := nums_l (ks := t.kids) hk; rw [l4]; show (k + 1) * 8 ≤ _; omega) | ((with_reducible show _ + _ ≤ _); have l3 := len3 ht; have l4 := nums_l (ks := t.kids) hk; rw [l4]; show k + 1 ≤ 2 ^ 63 - 1; omega) | ((with_reducible show _ ≤ _); omega) | ((with_reducible show (_ : Nat) = _); rw [nums_l hk]; omega) | ((with_reducible show (_ : Int) = _); with_reducible assumption) | (with_reducible exact ih) | (with_reducible exact ht) | (with_reducible assumption) | ((with_reducible show allC _ = false); exact gt_allC hk (by with_reducible assumption) (by with_reducible assumption) (kids_ne ht (by first | omega | (have hi := inP_iff.1 (show inP t.op 3 16 = true by with_reducible assumption); omega)))) | ((with_reducible show Dat.i _ = Dat.int _ _); exact rfl) | ((with_reducible show Sigma.mk _ _ = _); exact rfl) | exact ⟨fr5 (V.Term.eta _).symm⟩ | (have hp := kn_y (show (decide ((t.kids.length : Int) > 0) && allC (List.take k t.kids)) = true by with_reducible assumption); rw [take_all (ks := t.kids) (k := k) (by omega)]; exact ⟨fr5 (mkT_const (by omega) (gt_allC hk (by with_reducible assumption) (by with_reducible assumption) (List.ne_nil_of_length_pos (by omega))))⟩) | (have hi := inP_no (show inP t.op 3 16 = false by with_reducible assumption); exact ⟨fr5 ((mkT_leaf (kids_no ht (by omega))).trans (V.Term.eta _).symm)⟩) | (have hi := inP_no (show inP t.op 3 16 = false by with_reducible assumption); have hz0 : 1 ≤ t.op ∧ t.op ≤ 21 := (by omega); have hc := gt_allC hk (by with_reducible assumption) (by with_reducible assumption) (kids_ne ht hz0); have wt := okT_w ht; (try (have jw := jn_wrap ht (by with_reducible assumption) (by with_reducible assumption); simp only [jw] at *; clear jw)); (simp only [V.Term.eta, Int.toNat_zero, Int.toNat_one] at *); (try (refine ⟨fr5 (t := mkT t) ?_⟩; (try rw [V.Term.eta]))); obtain ⟨y, hr⟩ : ∃ y, redS t = y := ⟨_, rfl⟩; have hz := hr; unfold redS at hz; (repeat (first | rw [if_pos (by omega)] at hz | rw [if_neg (by omega)] at hz)); (first | unfold redU at hz | unfold redW at hz | unfold redJ at hz | skip); simp only [k0, k1, kAt] at hz; (repeat (first | rw [if_pos (by omega)] at hz | rw [if_neg (by omega)] at hz)); rw [← hz] at hr; first | exact lf_e ht hz0 hc hr | exact (lf_e ht hz0 hc hr).trans (congrArg mkT (wdK ht (by omega) (by with_reducible assumption))) | exact (lf_e ht hz0 hc hr).trans (congrArg mkT (jnK ht (by omega) (by with_reducible assumption))) | exact (congrArg okT (wdK ht (by omega) (by with_reducible assumption))).symm.trans (red_ok ht hz0 hr).1 | exact (congrArg okT (jnK ht (by omega) (by with_reducible assumption))).symm.trans (red_ok ht hz0 hr).1 | exact (congrArg meas (wdK ht (by omega) (by with_reducible assumption))) ▸ (red_ok ht hz0 hr).2 | exact (congrArg meas (jnK ht (by omega) (by with_reducible assumption))) ▸ (red_ok ht hz0 hr).2) | skip
theorem ihm_all : ∀ m, IHM m
  | 0 => ⟨fun _ _ _ _ _ _ h => absurd h (Nat.not_lt_zero _)⟩
  | m + 1 => ⟨fun op w n nm ks hk hm => s_mk0 ⟨op, w, n, nm, ks⟩ ⟨fun op' w' n' nm' ks' hk' hm' => (ihm_all m).call op' w' n' nm' ks' hk' (by omega)⟩ hk⟩
theorem s_l02Make (op w n : Int) (nm : ByteArray) (ks : List V.Term) (hk : okT ⟨op, w, n, nm, ks⟩ = true) :
    CallsV Tryz.prog 41 [.agg [.dat (.i op), .dat (.i w), .dat (.i n), .dat (.str nm), .dat (.seq .terms ks)]] (datT (mkT ⟨op, w, n, nm, ks⟩)) :=
  (ihm_all (meas ⟨op, w, n, nm, ks⟩ + 1)).call op w n nm ks hk (Nat.lt_succ_self _)
end Vg
