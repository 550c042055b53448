/- Walks and laws that the proof leans on. No condition. -/
import Derived.Test.YtjlffejifadkiaaGreatDoorTermMB
import Derived.Test.YtjlffejifadkiaaGreatDoorTermRd
import Derived.Test.YtjlffejifadkiaaGreatDoorTermMBA
import Derived.Test.YtjlffejifadkiaaGreatDoorTermMBB
import Derived.Test.YtjlffejifadkiaaGreatDoorTermMBC
import Derived.Test.YtjlffejifadkiaaGreatDoorTermMBD
namespace Vg
open Go Go.Proofs
set_option maxRecDepth 100000
set_option maxHeartbeats 40000000
theorem c0_w {t : V.Term} (ht : okT t = true) (ho : t.op = 17) : (k0 t).op = 0 → (k0 t).n = 0 ∨ (k0 t).n = 1 := by
  intro h
  by_cases c : (k0 t).n = 1
  · exact .inr c
  · exact .inl (qak (ok0 ht omG) h (fit_i ht ho).1 c)
theorem s_l02If (t : V.Term) (ih : IHM (qbe t)) (ht : okT t = true) (ho : t.op = 17) (hc : qb2 t.kids = false) : CallsV Tryz.prog 165 [.agg [.dat (.i t.op), .dat (.i t.w), .dat (.i t.n), .dat (.str t.name), .dat (.seq .terms t.kids)]] (qbj (mkT t)) := by
  refine oV Tryz.func165 ⟨?_⟩
  repeat' (first | ((with_reducible refine fun (K1 : KT) hK => ?_); refine stW ⟨?_⟩) | ((with_reducible show K1 _ _); subst hK; conv => whnf) | (with_reducible refine frG ?_) | (with_reducible exact rfl) | refine stD ⟨?_⟩ | refine st0 ⟨?_⟩ | ((with_reducible refine SplS.mk (fun h => ?_) (fun h => ?_)) <;> first | exact ctM | (subst h; conv => whnf) | (conv => whnf)) | refine stB ⟨?_⟩ ⟨?_⟩ | ((with_reducible first | refine pcI (g := 74) ?_ | show Exists _); refine ⟨_, qar .., rfl, ?_⟩; rotate_right; conv => whnf) | ((with_reducible first | refine pcI (g := 167) ?_ | show Exists _); refine ⟨_, qax .., rfl, ?_⟩; rotate_right; conv => whnf) | ((with_reducible first | refine pcI (g := 145) ?_ | show Exists _); refine ⟨_, ih_mk (ih := by assumption) (hk := ?_) (hm := ?_) .., rfl, ?_⟩; rotate_right; conv => whnf) | ((with_reducible refine zcI (g := 74) ?_); (conv => whnf); refine ⟨_, _, qar .., rfl, fun res B hRB => ?_⟩; rotate_right; obtain ⟨rfl, rfl⟩ := hRB; conv => whnf) | ((with_reducible refine zcI (g := 167) ?_); (conv => whnf); refine ⟨_, _, qax .., rfl, fun res B hRB => ?_⟩; rotate_right; obtain ⟨rfl, rfl⟩ := hRB; conv => whnf) | ((with_reducible refine zcI (g := 145) ?_); (conv => whnf); refine ⟨_, _, ih_mk (ih := asmR) (hk := ?_) (hm := ?_) .., rfl, fun res B hRB => ?_⟩; rotate_right; obtain ⟨rfl, rfl⟩ := hRB; conv => whnf) | (intro h; conv => whnf))
  all_goals repeat clear hK K1
  all_goals first | exact True.intro | ((with_reducible show (_ : Int) ≤ _); omega) | ((with_reducible show (_ : Int) < _); first | exact qc5 ht omG | exact qfv ht omG | exact qfu ht omG | exact qft ht omG | exact qc5 (ok0 ht omG) omG | exact qaj (ok0 ht omG) omG | exact qap (ok0 ht omG) omG | exact qfv (ok0 ht omG) omG | exact qfu (ok0 ht omG) omG | exact qft (ok0 ht omG) omG | exact qc5 (ok1 ht omG) omG | exact qfv (ok1 ht omG) omG | exact qfu (ok1 ht omG) omG | exact qft (ok1 ht omG) omG | omega) | (have q0 := c0_w ht ho; (simp only [V.Term.eta, Int.toNat_zero, Int.toNat_one, tn2, k0, kAt] at *; (try (refine ⟨fr5 (t := mkT t) ?_⟩; (try rw [V.Term.eta]))); first | omega | (obtain ⟨y, hr⟩ : ∃ y, qdk t = y := ⟨_, rfl⟩; have hz := hr; unfold qdk redI at hz; simp only [k0, k1, k2, kAt] at hz; (repeat (first | rw [if_pos omG] at hz | rw [if_neg omG] at hz | rw [if_pos (by unfold qam; omega)] at hz | rw [if_neg (by unfold qam; omega)] at hz)); rw [← hz] at hr; (try rw [ho] at hr); first | exact qi4 ht omG hc hr | exact ⟨fr5n (t := mkT t) (qi4 ht omG hc hr)⟩ | exact (qcc ht omG hr).1 | exact (qcc ht omG hr).2))) | skip
end Vg

namespace Vg
open Go Go.Proofs
set_option maxRecDepth 100000
set_option maxHeartbeats 40000000
theorem s_l02Cut (t : V.Term) (ih : IHM (qbe t)) (ht : okT t = true) (ho : t.op = 19) (hc : qb2 t.kids = false) : CallsV Tryz.prog 166 [.agg [.dat (.i t.op), .dat (.i t.w), .dat (.i t.n), .dat (.str t.name), .dat (.seq .terms t.kids)]] (qbj (mkT t)) := by
  refine oV Tryz.func166 ⟨?_⟩
  repeat' (first | ((with_reducible refine fun (K1 : KT) hK => ?_); refine stW ⟨?_⟩) | ((with_reducible show K1 _ _); subst hK; conv => whnf) | (with_reducible refine frG ?_) | (with_reducible exact rfl) | refine st0 ⟨?_⟩ | ((with_reducible refine SplS.mk (fun h => ?_) (fun h => ?_)) <;> first | exact ctM | (subst h; conv => whnf) | (conv => whnf)) | refine stB ⟨?_⟩ ⟨?_⟩ | ((with_reducible show Exists _); refine Exists.intro _ (And.intro (s_l02Bit (ih := by assumption) (hk := ?_) (hm := ?_) ..) (And.intro rfl ?_)); rotate_right; conv => whnf) | ((with_reducible show Exists _); refine Exists.intro _ (And.intro (s_l01In ..) (And.intro rfl ?_)); rotate_right; conv => whnf) | (intro h; conv => whnf))
  all_goals repeat clear hK K1
  all_goals first | exact True.intro | ((with_reducible show (_ : Int) ≤ _); omega) | ((with_reducible show (_ : Int) < _); first | exact qc5 ht omG | exact qaj ht omG | exact qap ht omG | exact qc5 (ok0 ht omG) omG | exact qc5 (ok0 ht omG) (by have h := inP_iff.1 (show inP (t.kids.getD (Int.toNat 0) K.terms.dflt).op 20 21 = true by with_reducible assumption); have e : (t.kids.getD (Int.toNat 0) K.terms.dflt).op = (k0 t).op := rfl; omega) | exact qaj (ok0 ht omG) omG | exact qap (ok0 ht omG) omG | exact qfv (ok0 ht omG) omG | exact qfu (ok0 ht omG) omG | exact qft (ok0 ht omG) omG | exact qc5 (ok1 ht omG) omG | exact qaj (ok1 ht omG) omG | exact qap (ok1 ht omG) omG | exact qfv (ok1 ht omG) omG | exact qfu (ok1 ht omG) omG | exact qft (ok1 ht omG) omG | omega) | (have b0 := qh5 ht omG; have wt := qdu ht; have w0 := qdu (ok0 ht omG); have c0 := fun h => qh5 (ok0 ht omG) h; have v0 := fun h => qdu (ok1 (ok0 ht omG) h); have v1 := fun h => qdu (ok0 (ok0 ht omG) h); (try simp only [inP, Bool.and_eq_true, Bool.and_eq_false_iff, decide_eq_true_eq, decide_eq_false_iff_not] at *); (simp only [V.Term.eta, Int.toNat_zero, Int.toNat_one, k0, k1, kAt] at *; (try simp only [qac (n := t.n + t.w) omG omG] at *); (try simp only [qac (n := t.n + (t.kids.getD 0 K.terms.dflt).n) omG omG] at *); (try simp only [qac (n := t.n - ((t.kids.getD 0 K.terms.dflt).kids.getD 1 K.terms.dflt).w) omG omG] at *); (try (refine ⟨fr5 (t := mkT t) ?_⟩; (try rw [V.Term.eta]))); first | omega | (obtain ⟨y, hr⟩ : ∃ y, qdk t = y := ⟨_, rfl⟩; have hz := hr; unfold qdk redC at hz; simp only [k0, k1, kAt] at hz; (repeat (first | rw [if_pos omG] at hz | rw [if_neg omG] at hz | rw [if_pos (by unfold qam; omega)] at hz | rw [if_neg (by unfold qam; omega)] at hz)); rw [← hz] at hr; (try rw [ho] at hr); first | exact qi4 ht omG hc hr | exact ⟨fr5n (t := mkT t) (qi4 ht omG hc hr)⟩ | exact (qcc ht omG hr).1 | exact (qcc ht omG hr).2))) | skip
end Vg

namespace Vg
open Go Go.Proofs
set_option maxRecDepth 100000
set_option maxHeartbeats 40000000
theorem s_l02Two (t : V.Term) (ih : IHM (qbe t)) (ht : okT t = true) (ho : inP t.op 3 16 = true) (hc : qb2 t.kids = false) :
    CallsV Tryz.prog 164 [.agg [.dat (.i t.op), .dat (.i t.w), .dat (.i t.n), .dat (.str t.name), .dat (.seq .terms t.kids)]] (qbj (mkT t)) := by
  rw [inP_iff] at ho
  have c : t.op = 3 ∨ t.op = 4 ∨ t.op = 5 ∨ t.op = 6 ∨ t.op = 7 ∨ t.op = 8 ∨ t.op = 9 ∨ t.op = 10 ∨ t.op = 11 ∨ t.op = 12 ∨ t.op = 13 ∨ t.op = 14 ∨ t.op = 15 ∨ t.op = 16 := by omega
  rcases c with h | h | h | h | h | h | h | h | h | h | h | h | h | h <;> rw [h]
  · exact s_T3 t ih ht h hc
  · exact s_T4 t ih ht h hc
  · exact s_T5 t ih ht h hc
  · exact s_T6 t ih ht h hc
  · exact s_T7 t ih ht h hc
  · exact s_T8 t ih ht h hc
  · exact s_T9 t ih ht h hc
  · exact s_T10 t ih ht h hc
  · exact s_T11 t ih ht h hc
  · exact s_T12 t ih ht h hc
  · exact s_T13 t ih ht h hc
  · exact s_T14 t ih ht h hc
  · exact s_T15 t ih ht h hc
  · exact s_T16 t ih ht h hc
theorem wdK {t : V.Term} (ht : okT t = true) (ho : t.op = 20 ∨ t.op = 21) (h : (k0 t).op = t.op) : oT t.op t.w 0 [k0 (k0 t)] = oT t.op t.w 0 (k0 t).kids := by
  have e := ks1 (qjx (ok0 ht omG) omG)
  rw [oT, oT, ← e]
theorem jnK {t : V.Term} (ht : okT t = true) (ho : t.op = 18) (h : (k1 t).op = 19) : oT 19 t.w (k1 t).n [k0 (k1 t)] = oT 19 t.w (k1 t).n (k1 t).kids := by
  have e := ks1 (qjx (ok1 ht omG) omG)
  rw [oT, oT, ← e]
theorem jn_wrap {t : V.Term} (ht : okT t = true) (h18 : t.op = 18) (h1 : (t.kids.getD (Int.toNat 1) K.terms.dflt).op = 19) :
    IntKind.i64.wrap ((t.kids.getD (Int.toNat 1) K.terms.dflt).n + (t.kids.getD (Int.toNat 1) K.terms.dflt).w) = (t.kids.getD (Int.toNat 1) K.terms.dflt).n + (t.kids.getD (Int.toNat 1) K.terms.dflt).w := by
  have e : (t.kids.getD (Int.toNat 1) K.terms.dflt) = k1 t := rfl
  rw [e] at h1 ⊢
  have c1 := qh5 (ok1 ht omG) h1
  have w1 := qdu (ok1 ht omG)
  have v1 := qdu (ok0 (ok1 ht omG) omG)
  exact qac omG omG
theorem qo9 {t : V.Term} {k : Nat} {b : Bool} (hk : k ≤ t.kids.length) (h : ¬ (k : Int) < t.kids.length) (e : (decide ((t.kids.length : Int) > 0) && qb2 (t.kids.take k)) = b) (h0 : t.kids ≠ []) : qb2 t.kids = b := by
  rw [List.take_of_length_le omG] at e
  have : 0 < t.kids.length := List.length_pos_iff.2 h0
  rw [decide_eq_true omG, Bool.true_and] at e
  exact e
theorem len3 {t : V.Term} (ht : okT t = true) : t.kids.length ≤ 3 := by
  have := (qdv ht).len
  unfold qjz at this
  repeat' split at this
  all_goals omega
theorem kids_ne {t : V.Term} (ht : okT t = true) (ho : 1 ≤ t.op ∧ t.op ≤ 21) : t.kids ≠ [] := by
  intro e
  have h1 := qjx ht
  have h2 := qhb ht
  have h3 := qgn ht
  rw [e] at h1 h2 h3
  simp only [List.length_nil] at h1 h2 h3
  omega
theorem kids_no {t : V.Term} (ht : okT t = true) (ho : ¬ (1 ≤ t.op ∧ t.op ≤ 21)) : t.kids.length = 0 := by
  have := (qdv ht).len
  have h2 := okT_op ht
  unfold qjz at this
  rw [if_pos omG] at this
  omega
theorem inP_no {n a b : Int} (h : inP n a b = false) : ¬ (a ≤ n ∧ n ≤ b) := fun q => by rw [inP_iff.2 q] at h; cases h
theorem kn_y {n : Int} {b : Bool} (h : (decide (n > 0) && b) = true) : n > 0 := by rw [Bool.and_eq_true] at h; exact of_decide_eq_true h.1
theorem mk_bt {ks : List V.Term} {k : Nat} (hk : (k : Int) < ks.length) (h : (decide ((ks.length : Int) > 0) && qb2 (ks.take k)) = true) : Dat.bool (decide ((ks.length : Int) > 0) && qb2 (ks.take (k + 1))) = Dat.bool ((ks.getD (k : Int).toNat K.terms.dflt).op == 0) := by
  rw [Bool.and_eq_true] at h
  rw [h.1, Bool.true_and]
  exact ac_t hk h.2
theorem mk_bf {ks : List V.Term} {k : Nat} (hk : (k : Int) < ks.length) (h : (decide ((ks.length : Int) > 0) && qb2 (ks.take k)) = false) : Dat.bool (decide ((ks.length : Int) > 0) && qb2 (ks.take (k + 1))) = Dat.bool false := by
  rw [decide_eq_true omG, Bool.true_and] at h ⊢
  exact ac_f hk h
theorem mk_b0 (ks : List V.Term) : Dat.bool (decide ((ks.length : Int) > 0) && qb2 (ks.take 0)) = Dat.bool (decide ((ks.length : Int) > 0)) := by
  rw [allC_0, Bool.and_true]
theorem nums_s {ks : List V.Term} {k : Nat} (hk : (k : Int) < ks.length) : nums (ks.take (k + 1)) = nums (ks.take k) ++ [(ks.getD (k : Int).toNat K.terms.dflt).n] := by
  have h : k < ks.length := by omega
  have e : ks.getD (k : Int).toNat K.terms.dflt = ks[k] := by
    rw [Int.toNat_natCast, List.getD_eq_getElem?_getD, List.getElem?_eq_getElem h]; rfl
  rw [e, List.take_add_one, List.getElem?_eq_getElem h]
  unfold nums
  rw [List.map_append]
  rfl
theorem qh7 {ks : List V.Term} {k : Nat} (h : ks.length ≤ k) : ks.take k = ks := List.take_of_length_le h
theorem wr_s {k : Nat} (h : k ≤ 3) : Dat.i ((k + 1 : Nat) : Int) = Dat.int IntKind.i64 (IntKind.i64.wrap ((k : Int) + 1)) := by
  rw [qac omG omG]; rfl
theorem nums_l {ks : List V.Term} {k : Nat} (hk : k ≤ ks.length) : (nums (ks.take k)).length = k := by
  simp [nums]
  omega
theorem s_mk0 (t : V.Term) (ih : IHM (qbe t)) (ht : okT t = true) : CallsV Tryz.prog 145 [.agg [.dat (.i t.op), .dat (.i t.w), .dat (.i t.n), .dat (.str t.name), .dat (.seq .terms t.kids)]] (qbj (mkT t)) := by
  refine oV Tryz.func145 ⟨?_⟩
  repeat' (first | ((with_reducible refine fun (K1 : KT) hK => ?_); refine stW ⟨?_⟩) | ((with_reducible show K1 _ _); subst hK; conv => whnf) | (with_reducible refine frG ?_) | (with_reducible exact rfl) | refine st0 ⟨?_⟩ | ((with_reducible refine SplS.mk (fun h => ?_) (fun h => ?_)) <;> first | exact ctM | (subst h; conv => whnf) | (conv => whnf)) | refine stB ⟨?_⟩ ⟨?_⟩ | (refine Exists.intro ({k : Nat // k ≤ t.kids.length}) (Exists.intro (fun ⟨k, hk⟩ => mkS Tryz.f145.ntmps [(1, .ptr 1 0), (2, .ptr 2 0), (3, .dat (.bool (decide ((t.kids.length : Int) > 0) && qb2 (t.kids.take k)))), (4, .row 4), (16, .dat (.seq .terms t.kids)), (17, .dat (.i t.kids.length)), (18, .dat (.i k))] [(1, .box [.dat (.i t.op), .dat (.i t.w), .dat (.i t.n), .dat (.str t.name), .dat (.seq .terms t.kids)]), (2, .box [.dat (.i 0), .dat (.i 0), .dat (.i 0), .dat (.str ByteArray.empty), .nils]), (4, .row 3 .ints (nums (t.kids.take k)) false)]) (Exists.intro (fun ⟨k, hk⟩ => t.kids.length - k) (Exists.intro ⟨0, Nat.zero_le _⟩ (And.intro (SubP.sub (σ := [(1, some 1), (2, some 2), (4, some 14)]) ⟨⟨rfl, rfl, rfl⟩, ⟨⟨rfl, rfl⟩, ⟨rfl, rfl⟩, (qab ?_), rfl, (qab ?_), (qab ?_), (qab ?_), trivial⟩, ⟨⟨(qaa ?_), (qaa ?_), (qaa ?_), (qaa ?_), (qaa ?_), trivial⟩, ⟨(qaa ?_), (qaa ?_), (qaa ?_), (qaa ?_), trivial, trivial⟩, ⟨⟨rfl, rfl⟩, ?_⟩, trivial⟩⟩) (fun ⟨k, hk⟩ => ?_))))); rotate_right; conv => whnf) | (refine Exists.intro (⟨k + 1, ?_⟩ : {k : Nat // k ≤ t.kids.length}) (And.intro ?_ (SubP.sub (σ := [(1, some 1), (2, some 2), (4, some 32)]) ⟨⟨rfl, rfl, rfl⟩, ⟨⟨rfl, rfl⟩, ⟨rfl, rfl⟩, (qab ?_), rfl, (qab ?_), (qab ?_), (qab ?_), trivial⟩, ⟨⟨(qaa ?_), (qaa ?_), (qaa ?_), (qaa ?_), (qaa ?_), trivial⟩, ⟨(qaa ?_), (qaa ?_), (qaa ?_), (qaa ?_), trivial, trivial⟩, ⟨⟨rfl, rfl⟩, ?_⟩, trivial⟩⟩))) | ((with_reducible first | refine pcI (g := 71) ?_ | show Exists _); refine ⟨_, s_l02Const .., rfl, ?_⟩; rotate_right; conv => whnf) | ((with_reducible first | refine pcI (g := 147) ?_ | show Exists _); refine ⟨_, s_l02Apply (ht := ?_) (ho := ?_) (hx := ?_) .., rfl, ?_⟩; rotate_right; conv => whnf) | ((with_reducible first | refine pcI (g := 38) ?_ | show Exists _); refine ⟨_, s_l01In .., rfl, ?_⟩; rotate_right; conv => whnf) | ((with_reducible first | refine pcI (g := 164) ?_ | show Exists _); refine ⟨_, s_l02Two (ih := by assumption) (ht := ?_) (ho := ?_) (hc := ?_) .., rfl, ?_⟩; rotate_right; conv => whnf) | ((with_reducible first | refine pcI (g := 165) ?_ | show Exists _); refine ⟨_, s_l02If (ih := by assumption) (ht := ?_) (ho := ?_) (hc := ?_) .., rfl, ?_⟩; rotate_right; conv => whnf) | ((with_reducible first | refine pcI (g := 166) ?_ | show Exists _); refine ⟨_, s_l02Cut (ih := by assumption) (ht := ?_) (ho := ?_) (hc := ?_) .., rfl, ?_⟩; rotate_right; conv => whnf) | ((with_reducible first | refine pcI (g := 145) ?_ | show Exists _); refine ⟨_, ih_mk (ih := by assumption) (hk := ?_) (hm := ?_) .., rfl, ?_⟩; rotate_right; conv => whnf) | ((with_reducible first | refine pcI (g := 167) ?_ | show Exists _); refine ⟨_, qax .., rfl, ?_⟩; rotate_right; conv => whnf) | (intro h; conv => whnf))
  all_goals repeat clear hK K1
  all_goals first | exact True.intro | ((with_reducible show (_ : Int) ≤ _); first | omega | (have := qi0 ht (List.ne_nil_of_length_pos (by have := kn_y (show (decide ((t.kids.length : Int) > 0) && qb2 (List.take k t.kids)) = true by with_reducible assumption); omega)); omega)) | ((with_reducible show (_ : Int) < _); first | (with_reducible assumption) | exact qc5 ht omG | exact qaj ht omG | exact qap ht omG | exact qc5 (ok0 ht omG) omG | exact qc5 (ok1 ht omG) omG | exact lt_k00 ht omG asmR) | ((with_reducible show (_ : Nat) < _); (dsimp only; omega)) | (with_reducible exact mk_bt asmR asmR) | (with_reducible exact mk_bf asmR asmR) | (with_reducible exact mk_b0 _) | (have l3 := len3 ht; exact wr_s omG) | exact congrArg (Sigma.mk K.ints) (nums_s asmR) | ((with_reducible show _ * _ ≤ _); have l3 := len3 ht; have l4 := nums_l (ks := t.kids) hk; rw [l4]; show (k + 1) * 8 ≤ _; omega) | ((with_reducible show _ + _ ≤ _); have l3 := len3 ht; have l4 := nums_l (ks := t.kids) hk; rw [l4]; show k + 1 ≤ 2 ^ 63 - 1; omega) | ((with_reducible show _ ≤ _); omega) | ((with_reducible show (_ : Nat) = _); rw [nums_l hk]; omega) | ((with_reducible show (_ : Int) = _); with_reducible assumption) | (with_reducible exact ih) | (with_reducible exact ht) | (with_reducible assumption) | ((with_reducible show qb2 _ = false); exact qo9 hk asmR asmR (kids_ne ht (by first | omega | (have hi := inP_iff.1 (show inP t.op 3 16 = true by with_reducible assumption); omega)))) | ((with_reducible show Dat.i _ = Dat.int _ _); exact rfl) | ((with_reducible show Sigma.mk _ _ = _); exact rfl) | exact ⟨fr5 (V.Term.eta _).symm⟩ | (have hp := kn_y (show (decide ((t.kids.length : Int) > 0) && qb2 (List.take k t.kids)) = true by with_reducible assumption); rw [qh7 (ks := t.kids) (k := k) omG]; exact ⟨fr5 (qgl omG (qo9 hk asmR asmR (List.ne_nil_of_length_pos omG)))⟩) | (have hi := inP_no (show inP t.op 3 16 = false by with_reducible assumption); exact ⟨fr5 ((mkT_leaf (kids_no ht omG)).trans (V.Term.eta _).symm)⟩) | (have hi := inP_no (show inP t.op 3 16 = false by with_reducible assumption); have hz0 : 1 ≤ t.op ∧ t.op ≤ 21 := omG; have hc := qo9 hk asmR asmR (kids_ne ht hz0); have wt := qdu ht; (try (have jw := jn_wrap ht asmR asmR; simp only [jw] at *; clear jw)); (simp only [V.Term.eta, Int.toNat_zero, Int.toNat_one] at *); (try (refine ⟨fr5 (t := mkT t) ?_⟩; (try rw [V.Term.eta]))); obtain ⟨y, hr⟩ : ∃ y, qdk t = y := ⟨_, rfl⟩; have hz := hr; unfold qdk at hz; (repeat (first | rw [if_pos omG] at hz | rw [if_neg omG] at hz)); (first | unfold redU at hz | unfold redW at hz | unfold redJ at hz | skip); simp only [k0, k1, kAt] at hz; (repeat (first | rw [if_pos omG] at hz | rw [if_neg omG] at hz)); rw [← hz] at hr; first | exact qi4 ht hz0 hc hr | exact (qi4 ht hz0 hc hr).trans (congrArg mkT (wdK ht omG asmR)) | exact (qi4 ht hz0 hc hr).trans (congrArg mkT (jnK ht omG asmR)) | exact (congrArg okT (wdK ht omG asmR)).symm.trans (qcc ht hz0 hr).1 | exact (congrArg okT (jnK ht omG asmR)).symm.trans (qcc ht hz0 hr).1 | exact (congrArg qbe (wdK ht omG asmR)) ▸ (qcc ht hz0 hr).2 | exact (congrArg qbe (jnK ht omG asmR)) ▸ (qcc ht hz0 hr).2) | skip
theorem ihm_all : ∀ m, IHM m
  | 0 => ⟨fun _ _ _ _ _ _ h => absurd h (Nat.not_lt_zero _)⟩
  | m + 1 => ⟨fun op w n nm ks hk hm => s_mk0 ⟨op, w, n, nm, ks⟩ ⟨fun op' w' n' nm' ks' hk' hm' => (ihm_all m).call op' w' n' nm' ks' hk' omG⟩ hk⟩
theorem s_l02Make (op w n : Int) (nm : ByteArray) (ks : List V.Term) (hk : okT ⟨op, w, n, nm, ks⟩ = true) :
    CallsV Tryz.prog 145 [.agg [.dat (.i op), .dat (.i w), .dat (.i n), .dat (.str nm), .dat (.seq .terms ks)]] (qbj (mkT ⟨op, w, n, nm, ks⟩)) :=
  (ihm_all (qbe ⟨op, w, n, nm, ks⟩ + 1)).call op w n nm ks hk (Nat.lt_succ_self _)
end Vg
