/- Walks and laws that the proof leans on. No condition. -/
import Derived.Test.YtahdmongckgjcaaGreatDoorTermMB
import Derived.Test.YtahdmongckgjcaaGreatDoorTermRd
import Derived.Test.YtahdmongckgjcaaGreatDoorTermMBA
import Derived.Test.YtahdmongckgjcaaGreatDoorTermMBB
import Derived.Test.YtahdmongckgjcaaGreatDoorTermMBC
import Derived.Test.YtahdmongckgjcaaGreatDoorTermMBD
namespace Vg
open Go Go.Proofs
set_option maxRecDepth 100000
set_option maxHeartbeats 40000000
theorem c0_w {t : V.Term} (ht : okT t = true) (ho : t.op = 17) : (k0 t).op = 0 → (k0 t).n = 0 ∨ (k0 t).n = 1 := by
  intro h
  by_cases c : (k0 t).n = 1
  · exact .inr c
  · exact .inl (qaz (ok0 ht (by omega)) h (fit_i ht ho).1 c)
theorem s_l02If (t : V.Term) (ih : IHM (qbz t)) (ht : okT t = true) (ho : t.op = 17) (hc : qcf t.kids = false) : CallsV Tryz.prog 178 [.agg [.dat (.i t.op), .dat (.i t.w), .dat (.i t.n), .dat (.str t.name), .dat (.seq .terms t.kids)]] (qbv (mkT t)) := by
  refine CallsV.of_awp qaf qag Tryz.func178 rfl rfl rfl ?_
  conv => whnf
  repeat' (first | ((with_reducible refine fun (K1 : AX → AState → Prop) hK => ?_); (with_reducible refine qae ?_ ?_); exact rfl; conv => whnf) | (with_reducible refine frG ?_) | ((with_reducible refine fun (K1 : AX → AState → Prop) hK => ?_); (with_reducible refine qa9 ?_ ?_); exact rfl; (conv => whnf); simp only [List.nil_append, List.cons_append]) | ((with_reducible refine qap ?_); conv => whnf) | ((with_reducible refine qau ?_ ?_); exact rfl; conv => whnf) | ((with_reducible refine qak ?_ ?_); exact rfl) | ((with_reducible refine qav ?_)) | ((with_reducible refine qa5 ?_ ?_); exact rfl; conv => whnf) | ((with_reducible refine qaq ?_ ?_); exact rfl) | ((with_reducible refine qa4 ?_ ?_); exact rfl; conv => whnf) | ((with_reducible show WR _ _ _ _ _ _ _ _ _); refine qb7 rfl ?_) | ((with_reducible show WEach _ _); refine qal rfl ?_; conv => whnf) | ((with_reducible first | refine Alt.l ?_ | refine fun (K1 : AX → AState → Prop) hK => ?_ | (show K1 _ _; subst hK)); conv => whnf) | (with_reducible exact rfl) | ((with_reducible first | refine sp_T ?_ | refine sp_F ?_); conv => whnf) | ((with_reducible first | refine qbe (fun h => ?_) (fun h => ?_) | refine qcb (fun h => ?_) (fun h => ?_)) <;> first | contradiction | (subst h; conv => whnf) | (conv => whnf)) | (refine ⟨(rfl : qac _ = true), rfl, ?_⟩; conv => whnf) | (with_reducible refine qbn ?_ ?_) | ((with_reducible refine qad ?_ ?_); conv => whnf) | ((first | ((with_reducible refine pcI (g := 115) ?_); refine ⟨_, qa6 .., rfl, ?_⟩) | ((with_reducible refine pcI (g := 180) ?_); refine ⟨_, s_l02Same .., rfl, ?_⟩)); rotate_right; conv => whnf) | ((with_reducible refine zcI (g := 154) ?_); (conv => whnf); refine ⟨_, _, qjg (ih := by with_reducible assumption) (hk := ?_) (hm := ?_) .., rfl, fun res B hRB => ?_⟩; rotate_right; obtain ⟨rfl, rfl⟩ := hRB; conv => whnf))
  all_goals (repeat (clear hK; clear K1))
  all_goals first | ((with_reducible show (_ : Int) ≤ _); omega) | ((with_reducible show (_ : Int) < _); first | exact qdn ht (by omega) | exact qgc ht (by omega) | exact qgb ht (by omega) | exact qga ht (by omega) | exact qdn (ok0 ht (by omega)) (by omega) | exact qas (ok0 ht (by omega)) (by omega) | exact qaw (ok0 ht (by omega)) (by omega) | exact qgc (ok0 ht (by omega)) (by omega) | exact qgb (ok0 ht (by omega)) (by omega) | exact qga (ok0 ht (by omega)) (by omega) | exact qdn (ok1 ht (by omega)) (by omega) | exact qgc (ok1 ht (by omega)) (by omega) | exact qgb (ok1 ht (by omega)) (by omega) | exact qga (ok1 ht (by omega)) (by omega) | omega) | (have q0 := c0_w ht ho; (simp only [V.Term.eta, Int.toNat_zero, Int.toNat_one, tn2, k0, kAt] at *; (try (refine ⟨fr5 (t := mkT t) ?_⟩; (try rw [V.Term.eta]))); first | omega | (obtain ⟨y, hr⟩ : ∃ y, qd1 t = y := ⟨_, rfl⟩; have hz := hr; unfold qd1 redI at hz; simp only [k0, k1, k2, kAt] at hz; (repeat (first | rw [if_pos (by omega)] at hz | rw [if_neg (by omega)] at hz | rw [if_pos (by unfold qat; omega)] at hz | rw [if_neg (by unfold qat; omega)] at hz)); rw [← hz] at hr; (try rw [ho] at hr); first | exact qjd ht (by omega) hc hr | exact ⟨fr5n (t := mkT t) (qjd ht (by omega) hc hr)⟩ | exact (qcr ht (by omega) hr).1 | exact (qcr ht (by omega) hr).2))) | skip
end Vg

namespace Vg
open Go Go.Proofs
set_option maxRecDepth 100000
set_option maxHeartbeats 40000000
theorem s_l02Cut (t : V.Term) (ih : IHM (qbz t)) (ht : okT t = true) (ho : t.op = 19) (hc : qcf t.kids = false) : CallsV Tryz.prog 179 [.agg [.dat (.i t.op), .dat (.i t.w), .dat (.i t.n), .dat (.str t.name), .dat (.seq .terms t.kids)]] (qbv (mkT t)) := by
  refine CallsV.of_awp qaf qag Tryz.func179 rfl rfl rfl ?_
  conv => whnf
  repeat' (first | ((with_reducible refine fun (K1 : AX → AState → Prop) hK => ?_); (with_reducible refine qae ?_ ?_); exact rfl; conv => whnf) | (with_reducible refine frG ?_) | ((with_reducible first | refine Alt.l ?_ | refine fun (K1 : AX → AState → Prop) hK => ?_ | (show K1 _ _; subst hK) | refine sp_T ?_ | refine sp_F ?_); conv => whnf) | ((with_reducible first | refine qbe (fun h => ?_) (fun h => ?_) | refine qcb (fun h => ?_) (fun h => ?_)) <;> first | contradiction | (subst h; conv => whnf) | (conv => whnf)) | ((with_reducible refine qdl (fun h => ?_) (fun h => ?_)) <;> first | (exact qa0 h (by with_reducible assumption)) | (exact qa0 (by with_reducible assumption) h) | (conv => whnf)) | (refine ⟨(rfl : qac _ = true), rfl, ?_⟩; conv => whnf) | (with_reducible refine qbn ?_ ?_) | ((with_reducible refine qad ?_ ?_); conv => whnf) | ((with_reducible show Exists _); refine Exists.intro _ (And.intro (s_l02Bit (ih := by assumption) (hk := ?_) (hm := ?_) ..) (And.intro rfl ?_)); rotate_right; conv => whnf) | ((with_reducible show Exists _); refine Exists.intro _ (And.intro (s_l01In ..) (And.intro rfl ?_)); rotate_right; conv => whnf))
  all_goals (repeat (clear hK; clear K1))
  all_goals first | ((with_reducible show (_ : Int) ≤ _); omega) | ((with_reducible show (_ : Int) < _); first | exact qdn ht (by omega) | exact qas ht (by omega) | exact qaw ht (by omega) | exact qdn (ok0 ht (by omega)) (by omega) | exact qdn (ok0 ht (by omega)) (by have h := qbb.1 (show inP (t.kids.getD (Int.toNat 0) K.terms.dflt).op 20 21 = true by with_reducible assumption); have e : (t.kids.getD (Int.toNat 0) K.terms.dflt).op = (k0 t).op := rfl; omega) | exact qas (ok0 ht (by omega)) (by omega) | exact qaw (ok0 ht (by omega)) (by omega) | exact qgc (ok0 ht (by omega)) (by omega) | exact qgb (ok0 ht (by omega)) (by omega) | exact qga (ok0 ht (by omega)) (by omega) | exact qdn (ok1 ht (by omega)) (by omega) | exact qas (ok1 ht (by omega)) (by omega) | exact qaw (ok1 ht (by omega)) (by omega) | exact qgc (ok1 ht (by omega)) (by omega) | exact qgb (ok1 ht (by omega)) (by omega) | exact qga (ok1 ht (by omega)) (by omega) | omega) | (have b0 := qih ht (by omega); have wt := qec ht; have w0 := qec (ok0 ht (by omega)); have c0 := fun h => qih (ok0 ht (by omega)) h; have v0 := fun h => qec (ok1 (ok0 ht (by omega)) h); have v1 := fun h => qec (ok0 (ok0 ht (by omega)) h); (try simp only [inP, Bool.and_eq_true, Bool.and_eq_false_iff, decide_eq_true_eq, decide_eq_false_iff_not] at *); (simp only [V.Term.eta, Int.toNat_zero, Int.toNat_one, k0, k1, kAt] at *; (try simp only [qah (n := t.n + t.w) (by omega) (by omega)] at *); (try simp only [qah (n := t.n + (t.kids.getD 0 K.terms.dflt).n) (by omega) (by omega)] at *); (try simp only [qah (n := t.n - ((t.kids.getD 0 K.terms.dflt).kids.getD 1 K.terms.dflt).w) (by omega) (by omega)] at *); (try (refine ⟨fr5 (t := mkT t) ?_⟩; (try rw [V.Term.eta]))); first | omega | (obtain ⟨y, hr⟩ : ∃ y, qd1 t = y := ⟨_, rfl⟩; have hz := hr; unfold qd1 redC at hz; simp only [k0, k1, kAt] at hz; (repeat (first | rw [if_pos (by omega)] at hz | rw [if_neg (by omega)] at hz | rw [if_pos (by unfold qat; omega)] at hz | rw [if_neg (by unfold qat; omega)] at hz)); rw [← hz] at hr; (try rw [ho] at hr); first | exact qjd ht (by omega) hc hr | exact ⟨fr5n (t := mkT t) (qjd ht (by omega) hc hr)⟩ | exact (qcr ht (by omega) hr).1 | exact (qcr ht (by omega) hr).2))) | skip
end Vg

namespace Vg
open Go Go.Proofs
set_option maxRecDepth 100000
set_option maxHeartbeats 40000000
theorem s_l02Two (t : V.Term) (ih : IHM (qbz t)) (ht : okT t = true) (ho : inP t.op 3 16 = true) (hc : qcf t.kids = false) :
    CallsV Tryz.prog 177 [.agg [.dat (.i t.op), .dat (.i t.w), .dat (.i t.n), .dat (.str t.name), .dat (.seq .terms t.kids)]] (qbv (mkT t)) := by
  rw [qbb] at ho
  have c : t.op = 3 ∨ t.op = 4 ∨ t.op = 5 ∨ t.op = 6 ∨ t.op = 7 ∨ t.op = 8 ∨ t.op = 9 ∨ t.op = 10 ∨ t.op = 11 ∨ t.op = 12 ∨ t.op = 13 ∨ t.op = 14 ∨ t.op = 15 ∨ t.op = 16 := by omega
  rcases c with h | h | h | h | h | h | h | h | h | h | h | h | h | h <;> rw [h]
  · exact s_T3 t ih ht h hc
  · exact s_T4 t ih ht h hc
  · exact s_T5 t ih ht h hc
  · exact s_T6 t ih ht h hc
  · exact s_T7 t ih ht h hc
  · exact s_T8 t ih ht h hc
  · exact s_T9 t ih ht h hc
  · exact s_T10 t ih ht h hc
  · exact s_T11 t ih ht h hc
  · exact s_T12 t ih ht h hc
  · exact s_T13 t ih ht h hc
  · exact s_T14 t ih ht h hc
  · exact s_T15 t ih ht h hc
  · exact s_T16 t ih ht h hc
theorem wdK {t : V.Term} (ht : okT t = true) (ho : t.op = 20 ∨ t.op = 21) (h : (k0 t).op = t.op) : oT t.op t.w 0 [k0 (k0 t)] = oT t.op t.w 0 (k0 t).kids := by
  have e := ks1 (qj5 (ok0 ht (by omega)) (by omega))
  rw [oT, oT, ← e]
theorem jnK {t : V.Term} (ht : okT t = true) (ho : t.op = 18) (h : (k1 t).op = 19) : oT 19 t.w (k1 t).n [k0 (k1 t)] = oT 19 t.w (k1 t).n (k1 t).kids := by
  have e := ks1 (qj5 (ok1 ht (by omega)) (by omega))
  rw [oT, oT, ← e]
theorem jn_wrap {t : V.Term} (ht : okT t = true) (h18 : t.op = 18) (h1 : (t.kids.getD (Int.toNat 1) K.terms.dflt).op = 19) :
    IntKind.i64.wrap ((t.kids.getD (Int.toNat 1) K.terms.dflt).n + (t.kids.getD (Int.toNat 1) K.terms.dflt).w) = (t.kids.getD (Int.toNat 1) K.terms.dflt).n + (t.kids.getD (Int.toNat 1) K.terms.dflt).w := by
  have e : (t.kids.getD (Int.toNat 1) K.terms.dflt) = k1 t := rfl
  rw [e] at h1 ⊢
  have c1 := qih (ok1 ht (by omega)) h1
  have w1 := qec (ok1 ht (by omega))
  have v1 := qec (ok0 (ok1 ht (by omega)) (by omega))
  exact qah (by omega) (by omega)
theorem qow {t : V.Term} {k : Nat} {b : Bool} (hk : k ≤ t.kids.length) (h : ¬ (k : Int) < t.kids.length) (e : (decide ((t.kids.length : Int) > 0) && qcf (t.kids.take k)) = b) (h0 : t.kids ≠ []) : qcf t.kids = b := by
  rw [List.take_of_length_le (by omega)] at e
  have : 0 < t.kids.length := List.length_pos_iff.2 h0
  rw [decide_eq_true (by omega), Bool.true_and] at e
  exact e
theorem len3 {t : V.Term} (ht : okT t = true) : t.kids.length ≤ 3 := by
  have := (qed ht).len
  unfold qj7 at this
  repeat' split at this
  all_goals omega
theorem kids_ne {t : V.Term} (ht : okT t = true) (ho : 1 ≤ t.op ∧ t.op ≤ 21) : t.kids ≠ [] := by
  intro e
  have h1 := qj5 ht
  have h2 := qhn ht
  have h3 := qgz ht
  rw [e] at h1 h2 h3
  simp only [List.length_nil] at h1 h2 h3
  omega
theorem kids_no {t : V.Term} (ht : okT t = true) (ho : ¬ (1 ≤ t.op ∧ t.op ≤ 21)) : t.kids.length = 0 := by
  have := (qed ht).len
  have h2 := okT_op ht
  unfold qj7 at this
  rw [if_pos (by omega)] at this
  omega
theorem inP_no {n a b : Int} (h : inP n a b = false) : ¬ (a ≤ n ∧ n ≤ b) := fun q => by rw [qbb.2 q] at h; cases h
theorem kn_y {n : Int} {b : Bool} (h : (decide (n > 0) && b) = true) : n > 0 := by rw [Bool.and_eq_true] at h; exact of_decide_eq_true h.1
theorem mk_bt {ks : List V.Term} {k : Nat} (hk : (k : Int) < ks.length) (h : (decide ((ks.length : Int) > 0) && qcf (ks.take k)) = true) : Dat.bool (decide ((ks.length : Int) > 0) && qcf (ks.take (k + 1))) = Dat.bool ((ks.getD (k : Int).toNat K.terms.dflt).op == 0) := by
  rw [Bool.and_eq_true] at h
  rw [h.1, Bool.true_and]
  exact ac_t hk h.2
theorem mk_bf {ks : List V.Term} {k : Nat} (hk : (k : Int) < ks.length) (h : (decide ((ks.length : Int) > 0) && qcf (ks.take k)) = false) : Dat.bool (decide ((ks.length : Int) > 0) && qcf (ks.take (k + 1))) = Dat.bool false := by
  rw [decide_eq_true (by omega), Bool.true_and] at h ⊢
  exact ac_f hk h
theorem mk_b0 (ks : List V.Term) : Dat.bool (decide ((ks.length : Int) > 0) && qcf (ks.take 0)) = Dat.bool (decide ((ks.length : Int) > 0)) := by
  rw [allC_0, Bool.and_true]
theorem nums_s {ks : List V.Term} {k : Nat} (hk : (k : Int) < ks.length) : nums (ks.take (k + 1)) = nums (ks.take k) ++ [(ks.getD (k : Int).toNat K.terms.dflt).n] := by
  have h : k < ks.length := by omega
  have e : ks.getD (k : Int).toNat K.terms.dflt = ks[k] := by
    rw [Int.toNat_natCast, List.getD_eq_getElem?_getD, List.getElem?_eq_getElem h]; rfl
  rw [e, List.take_add_one, List.getElem?_eq_getElem h]
  unfold nums
  rw [List.map_append]
  rfl
theorem qlg {ks : List V.Term} {k : Nat} (h : ks.length ≤ k) : ks.take k = ks := List.take_of_length_le h
theorem wr_s {k : Nat} (h : k ≤ 3) : Dat.i ((k + 1 : Nat) : Int) = Dat.int IntKind.i64 (IntKind.i64.wrap ((k : Int) + 1)) := by
  rw [qah (by omega) (by omega)]; rfl
theorem nums_l {ks : List V.Term} {k : Nat} (hk : k ≤ ks.length) : (nums (ks.take k)).length = k := by
  simp [nums]
  omega
theorem s_mk0 (t : V.Term) (ih : IHM (qbz t)) (ht : okT t = true) : CallsV Tryz.prog 154 [.agg [.dat (.i t.op), .dat (.i t.w), .dat (.i t.n), .dat (.str t.name), .dat (.seq .terms t.kids)]] (qbv (mkT t)) := by
  refine CallsV.of_awp qaf qag Tryz.func154 rfl rfl rfl ?_
  conv => whnf
  repeat' (first | ((with_reducible refine fun (K1 : AX → AState → Prop) hK => ?_); (with_reducible refine qae ?_ ?_); exact rfl; conv => whnf) | (with_reducible refine frG ?_) | ((with_reducible first | refine Alt.l ?_ | refine fun (K1 : AX → AState → Prop) hK => ?_ | (show K1 _ _; subst hK)); conv => whnf) | (with_reducible exact rfl) | ((with_reducible first | refine sp_T ?_ | refine sp_F ?_); conv => whnf) | ((with_reducible first | refine qbe (fun h => ?_) (fun h => ?_) | refine qcb (fun h => ?_) (fun h => ?_)) <;> first | contradiction | (subst h; conv => whnf) | (conv => whnf)) | ((with_reducible refine qdl (fun h => ?_) (fun h => ?_)) <;> first | (exact qa0 h (by with_reducible assumption)) | (exact qa0 (by with_reducible assumption) h) | (conv => whnf)) | (refine ⟨(rfl : qac _ = true), rfl, ?_⟩; conv => whnf) | (with_reducible refine qbn ?_ ?_) | (with_reducible refine qdv ?_ ?_) | (with_reducible refine qns ?_ ?_) | ((with_reducible refine qad ?_ ?_); conv => whnf) | (refine Exists.intro ({k : Nat // k ≤ t.kids.length}) (Exists.intro (fun ⟨k, hk⟩ => mkS Tryz.f154.ntmps [(1, .ptr 1 0), (2, .ptr 2 0), (3, .dat (.bool (decide ((t.kids.length : Int) > 0) && qcf (t.kids.take k)))), (4, .row 4), (16, .dat (.seq .terms t.kids)), (17, .dat (.i t.kids.length)), (18, .dat (.i k))] [(1, .box [.dat (.i t.op), .dat (.i t.w), .dat (.i t.n), .dat (.str t.name), .dat (.seq .terms t.kids)]), (2, .box [.dat (.i 0), .dat (.i 0), .dat (.i 0), .dat (.str ByteArray.empty), .nils]), (4, .row 3 .ints (nums (t.kids.take k)) false)]) (Exists.intro (fun ⟨k, hk⟩ => t.kids.length - k) (Exists.intro ⟨0, Nat.zero_le _⟩ (And.intro (SubP.sub (σ := [(1, some 1), (2, some 2), (4, some 14)]) ⟨⟨rfl, rfl, rfl⟩, ⟨⟨rfl, rfl⟩, ⟨rfl, rfl⟩, (qab ?_), rfl, (qab ?_), (qab ?_), (qab ?_), trivial⟩, ⟨⟨(qaa ?_), (qaa ?_), (qaa ?_), (qaa ?_), (qaa ?_), trivial⟩, ⟨(qaa ?_), (qaa ?_), (qaa ?_), (qaa ?_), trivial, trivial⟩, ⟨⟨rfl, rfl⟩, ?_⟩, trivial⟩⟩) (fun ⟨k, hk⟩ => ?_))))); rotate_right; conv => whnf) | (refine Exists.intro (⟨k + 1, ?_⟩ : {k : Nat // k ≤ t.kids.length}) (And.intro ?_ (SubP.sub (σ := [(1, some 1), (2, some 2), (4, some 32)]) ⟨⟨rfl, rfl, rfl⟩, ⟨⟨rfl, rfl⟩, ⟨rfl, rfl⟩, (qab ?_), rfl, (qab ?_), (qab ?_), (qab ?_), trivial⟩, ⟨⟨(qaa ?_), (qaa ?_), (qaa ?_), (qaa ?_), (qaa ?_), trivial⟩, ⟨(qaa ?_), (qaa ?_), (qaa ?_), (qaa ?_), trivial, trivial⟩, ⟨⟨rfl, rfl⟩, ?_⟩, trivial⟩⟩))) | ((with_reducible show Exists _); refine Exists.intro _ (And.intro (s_l02Const ..) (And.intro rfl ?_)); rotate_right; conv => whnf) | ((with_reducible show Exists _); refine Exists.intro _ (And.intro (s_l02Apply (ht := ?_) (ho := ?_) (hx := ?_) ..) (And.intro rfl ?_)); rotate_right; conv => whnf) | ((first | ((with_reducible refine pcI (g := 38) ?_); refine ⟨_, s_l01In .., rfl, ?_⟩) | ((with_reducible refine pcI (g := 177) ?_); refine ⟨_, s_l02Two (ih := by assumption) (ht := ?_) (ho := ?_) (hc := ?_) .., rfl, ?_⟩) | ((with_reducible refine pcI (g := 178) ?_); refine ⟨_, s_l02If (ih := by assumption) (ht := ?_) (ho := ?_) (hc := ?_) .., rfl, ?_⟩) | ((with_reducible refine pcI (g := 179) ?_); refine ⟨_, s_l02Cut (ih := by assumption) (ht := ?_) (ho := ?_) (hc := ?_) .., rfl, ?_⟩) | ((with_reducible refine pcI (g := 154) ?_); refine ⟨_, qjg (ih := by assumption) (hk := ?_) (hm := ?_) .., rfl, ?_⟩)); rotate_right; conv => whnf) | ((with_reducible show Exists _); refine Exists.intro _ (And.intro (s_l02Same ..) (And.intro rfl ?_)); rotate_right; conv => whnf) | (intro h; conv => whnf))
  all_goals (repeat (clear hK; clear K1))
  all_goals first | ((with_reducible show (_ : Int) ≤ _); first | omega | (have := qi9 ht (List.ne_nil_of_length_pos (by have := kn_y (show (decide ((t.kids.length : Int) > 0) && qcf (List.take k t.kids)) = true by with_reducible assumption); omega)); omega)) | ((with_reducible show (_ : Int) < _); first | (with_reducible assumption) | exact qdn ht (by omega) | exact qas ht (by omega) | exact qaw ht (by omega) | exact qdn (ok0 ht (by omega)) (by omega) | exact qdn (ok1 ht (by omega)) (by omega) | exact lt_k00 ht (by omega) (by with_reducible assumption)) | ((with_reducible show (_ : Nat) < _); (dsimp only; omega)) | (with_reducible exact mk_bt (by with_reducible assumption) (by with_reducible assumption)) | (with_reducible exact mk_bf (by with_reducible assumption) (by with_reducible assumption)) | (with_reducible exact mk_b0 _) | (have l3 := len3 ht; exact wr_s (by omega)) | exact congrArg (Sigma.mk K.ints) (nums_s (by with_reducible assumption)) | ((with_reducible show _ * _ ≤ _); have l3 := len3 ht; have l4 := nums_l (ks := t.kids) hk; rw [l4]; show (k + 1) * 8 ≤ _; omega) | ((with_reducible show _ + _ ≤ _); have l3 := len3 ht; have l4 := nums_l (ks := t.kids) hk; rw [l4]; show k + 1 ≤ 2 ^ 63 - 1; omega) | ((with_reducible show _ ≤ _); omega) | ((with_reducible show (_ : Nat) = _); rw [nums_l hk]; omega) | ((with_reducible show (_ : Int) = _); with_reducible assumption) | (with_reducible exact ht) | (with_reducible assumption) | ((with_reducible show qcf _ = false); exact qow hk (by with_reducible assumption) (by with_reducible assumption) (kids_ne ht (by first | omega | (have hi := qbb.1 (show inP t.op 3 16 = true by with_reducible assumption); omega)))) | ((with_reducible show Dat.i _ = Dat.int _ _); exact rfl) | ((with_reducible show Sigma.mk _ _ = _); exact rfl) | exact ⟨fr5 (V.Term.eta _).symm⟩ | (have hp := kn_y (show (decide ((t.kids.length : Int) > 0) && qcf (List.take k t.kids)) = true by with_reducible assumption); rw [qlg (ks := t.kids) (k := k) (by omega)]; exact ⟨fr5 (qgx (by omega) (qow hk (by with_reducible assumption) (by with_reducible assumption) (List.ne_nil_of_length_pos (by omega))))⟩) | (have hi := inP_no (show inP t.op 3 16 = false by with_reducible assumption); exact ⟨fr5 ((mkT_leaf (kids_no ht (by omega))).trans (V.Term.eta _).symm)⟩) | (have hi := inP_no (show inP t.op 3 16 = false by with_reducible assumption); have hz0 : 1 ≤ t.op ∧ t.op ≤ 21 := (by omega); have hc := qow hk (by with_reducible assumption) (by with_reducible assumption) (kids_ne ht hz0); have wt := qec ht; (try (have jw := jn_wrap ht (by with_reducible assumption) (by with_reducible assumption); simp only [jw] at *; clear jw)); (simp only [V.Term.eta, Int.toNat_zero, Int.toNat_one] at *); (try (refine ⟨fr5 (t := mkT t) ?_⟩; (try rw [V.Term.eta]))); obtain ⟨y, hr⟩ : ∃ y, qd1 t = y := ⟨_, rfl⟩; have hz := hr; unfold qd1 at hz; (repeat (first | rw [if_pos (by omega)] at hz | rw [if_neg (by omega)] at hz)); (first | unfold redU at hz | unfold redW at hz | unfold redJ at hz | skip); simp only [k0, k1, kAt] at hz; (repeat (first | rw [if_pos (by omega)] at hz | rw [if_neg (by omega)] at hz)); rw [← hz] at hr; first | exact qjd ht hz0 hc hr | exact (qjd ht hz0 hc hr).trans (congrArg mkT (wdK ht (by omega) (by with_reducible assumption))) | exact (qjd ht hz0 hc hr).trans (congrArg mkT (jnK ht (by omega) (by with_reducible assumption))) | exact (congrArg okT (wdK ht (by omega) (by with_reducible assumption))).symm.trans (qcr ht hz0 hr).1 | exact (congrArg okT (jnK ht (by omega) (by with_reducible assumption))).symm.trans (qcr ht hz0 hr).1 | exact (congrArg qbz (wdK ht (by omega) (by with_reducible assumption))) ▸ (qcr ht hz0 hr).2 | exact (congrArg qbz (jnK ht (by omega) (by with_reducible assumption))) ▸ (qcr ht hz0 hr).2) | skip
theorem ihm_all : ∀ m, IHM m
  | 0 => ⟨fun _ _ _ _ _ _ h => absurd h (Nat.not_lt_zero _)⟩
  | m + 1 => ⟨fun op w n nm ks hk hm => s_mk0 ⟨op, w, n, nm, ks⟩ ⟨fun op' w' n' nm' ks' hk' hm' => (ihm_all m).call op' w' n' nm' ks' hk' (by omega)⟩ hk⟩
theorem s_l02Make (op w n : Int) (nm : ByteArray) (ks : List V.Term) (hk : okT ⟨op, w, n, nm, ks⟩ = true) :
    CallsV Tryz.prog 154 [.agg [.dat (.i op), .dat (.i w), .dat (.i n), .dat (.str nm), .dat (.seq .terms ks)]] (qbv (mkT ⟨op, w, n, nm, ks⟩)) :=
  (ihm_all (qbz ⟨op, w, n, nm, ks⟩ + 1)).call op w n nm ks hk (Nat.lt_succ_self _)
end Vg
