/- Operations on words by terms: contracts. Conditions: the term is good, and its kids are constants. -/
import Derived.Test.YtjlffejifadkiaaGreatDoorTermV
import Derived.Test.YtjlffejifadkiaaGreatDoorRg
namespace Vg
open Go Go.Proofs
set_option maxRecDepth 100000
set_option maxHeartbeats 40000000
theorem cut_no1 {w a low n : Int} (h : wordP w a = false) : cutP w a low n = -1 := if_neg fun k => by rw [k.1] at h; cases h
theorem cut_no2 {w a low n : Int} (h : ¬ (0 ≤ low ∧ 1 ≤ n ∧ n ≤ w - low)) : cutP w a low n = -1 := if_neg fun k => h k.2
theorem cut_yes {w a low n : Int} (h : wordP w a = true) (h2 : 0 ≤ low ∧ 1 ≤ n ∧ n ≤ w - low) : cutP w a low n = qbu n (Int.fdiv a (2 ^ min low.toNat IntKind.i64.bits)) := if_pos ⟨h, h2⟩
theorem join_no1 {w a v b : Int} (h : wordP w a = false) : qh4 w a v b = -1 := if_neg fun k => by rw [k.1] at h; cases h
theorem join_no2 {w a v b : Int} (h : wordP v b = false) : qh4 w a v b = -1 := if_neg fun k => by rw [k.2.1] at h; cases h
theorem join_no3 {w a v b : Int} (h : ¬ w + v ≤ 16) : qh4 w a v b = -1 := if_neg fun k => h k.2.2
theorem join_yes {w a v b : Int} (ha : wordP w a = true) (hb : wordP v b = true) (h : w + v ≤ 16) : IntKind.i64.wrap (IntKind.i64.wrap (a * 2 ^ min v.toNat IntKind.i64.bits) + b) = qh4 w a v b := by
  obtain ⟨hw, a0, a1⟩ := qas ha
  obtain ⟨hv, b0, b1⟩ := qas hb
  have w1 := qi7 hw
  have v1 := qi7 hv
  have em : min v.toNat IntKind.i64.bits = v.toNat := by
    have : IntKind.i64.bits = 64 := rfl
    omega
  have hp : (0 : Int) < 2 ^ v.toNat := Int.pow_pos (by decide)
  have h1 : a * 2 ^ v.toNat ≤ 2 ^ w.toNat * 2 ^ v.toNat := Int.mul_le_mul_of_nonneg_right omG omG
  have h2 : (2 : Int) ^ w.toNat * 2 ^ v.toNat = 2 ^ (w + v).toNat := by
    rw [← Int.pow_add]
    congr 1
    omega
  have h3 : (2 : Int) ^ (w + v).toNat ≤ 65536 := (wf (w := w + v) (by simp [inP]; omega)).s2
  have h4 : (2 : Int) ^ v.toNat ≤ 65536 := (wf hv).s2
  have h0 : 0 ≤ a * 2 ^ v.toNat := Int.mul_nonneg a0 omG
  rw [em, qac (n := a * 2 ^ v.toNat) omG omG, qac omG omG]
  unfold qh4
  rw [if_pos ⟨ha, hb, h⟩]
theorem wid_no1 {w a n : Int} {s : Bool} (h : wordP w a = false) : qd1 w a n s = -1 := if_neg fun k => by rw [k.1] at h; cases h
theorem wid_no2 {w a n : Int} {s : Bool} (h : ¬ (w ≤ n ∧ n ≤ 16)) : qd1 w a n s = -1 := if_neg fun k => h k.2
theorem wid_T {w a n : Int} {s : Bool} (h : wordP w a = true) (h2 : w ≤ n ∧ n ≤ 16) (hs : s = true) : qd1 w a n s = qbu n (qby w a) := by unfold qd1; rw [if_pos ⟨h, h2⟩, if_pos hs]
theorem wid_F {w a n : Int} {s : Bool} (h : wordP w a = true) (h2 : w ≤ n ∧ n ≤ 16) (hs : s = false) : qd1 w a n s = a := by unfold qd1; rw [if_pos ⟨h, h2⟩, if_neg (by rw [hs]; decide)]
theorem s_CutWord (w a low n : Int) (hl : low ≤ 1048576) : CallsV Tryz.prog 171 [.dat (.i w), .dat (.i a), .dat (.i low), .dat (.i n)] (.dat (.i (cutP w a low n))) := by
  refine oV Tryz.func171 ⟨?_⟩
  repeat' (first | ((with_reducible refine fun (K1 : KT) hK => ?_); refine stR ⟨?_⟩) | ((with_reducible show K1 _ _); subst hK; conv => whnf) | (with_reducible exact rfl) | refine st0 ⟨?_⟩ | ((with_reducible refine SplS.mk (fun h => ?_) (fun h => ?_)) <;> first | exact ctM | (subst h; conv => whnf) | (conv => whnf)) | refine stB ⟨?_⟩ ⟨?_⟩ | ((with_reducible first | refine pcI (g := 111) ?_ | show Exists _); refine ⟨_, qc7 .., rfl, ?_⟩; rotate_right; conv => whnf) | ((with_reducible first | refine pcI (g := 30) ?_ | show Exists _); refine ⟨_, qh8 .., rfl, ?_⟩; rotate_right; conv => whnf) | (intro h; conv => whnf))
  all_goals repeat clear hK K1
  all_goals first | exact di_eq (cut_no1 asmR) | (have ha := (show wordP w a = true by with_reducible assumption); have hw := qi7 (qas ha).1; (try simp only [qac (n := w - n) omG omG] at *); first | omega | exact di_eq (cut_no2 omG) | exact di_eq (cut_yes ha omG)) | skip
theorem i_CutWord (w a low n : Int) (hl : low ≤ 1048576) : CallsV Tryz.prog 107 [.dat (.i w), .dat (.i a), .dat (.i low), .dat (.i n)] (.dat (.i (cutP w a low n))) := by
  refine oV Tryz.func107 ⟨?_⟩
  repeat' (first | ((with_reducible refine fun (K1 : KT) hK => ?_); refine stR ⟨?_⟩) | ((with_reducible show K1 _ _); subst hK; conv => whnf) | (with_reducible exact rfl) | refine st0 ⟨?_⟩ | ((with_reducible refine SplS.mk (fun h => ?_) (fun h => ?_)) <;> first | exact ctM | (subst h; conv => whnf) | (conv => whnf)) | refine stB ⟨?_⟩ ⟨?_⟩ | ((with_reducible first | refine pcI (g := 101) ?_ | show Exists _); refine ⟨_, qc1 .., rfl, ?_⟩; rotate_right; conv => whnf) | (intro h; conv => whnf))
  all_goals repeat clear hK K1
  all_goals first | exact di_eq (cut_no1 asmR) | (have ha := (show wordP w a = true by with_reducible assumption); have hw := qi7 (qas ha).1; (try simp only [qac (n := w - low) omG omG] at *); first | (rw [qh6 omG omG]; omega) | exact di_eq (cut_no2 omG) | (have hn : inP n 1 16 = true := (by simp [inP]; omega); refine di_eq ?_; rw [cut_yes ha omG, qg4 hn, uw hn, qh6 (n := low) omG omG])) | skip
theorem qog (w a v b : Int) : CallsV Tryz.prog 170 [.dat (.i w), .dat (.i a), .dat (.i v), .dat (.i b)] (.dat (.i (qh4 w a v b))) := by
  refine oV Tryz.func170 ⟨?_⟩
  repeat' (first | ((with_reducible refine fun (K1 : KT) hK => ?_); refine stR ⟨?_⟩) | ((with_reducible show K1 _ _); subst hK; conv => whnf) | (with_reducible exact rfl) | refine st0 ⟨?_⟩ | ((with_reducible refine SplS.mk (fun h => ?_) (fun h => ?_)) <;> first | exact ctM | (subst h; conv => whnf) | (conv => whnf)) | refine stB ⟨?_⟩ ⟨?_⟩ | ((with_reducible first | refine pcI (g := 111) ?_ | show Exists _); refine ⟨_, qc7 .., rfl, ?_⟩; rotate_right; conv => whnf) | (intro h; conv => whnf))
  all_goals repeat clear hK K1
  all_goals first | exact di_eq (join_no1 asmR) | exact di_eq (join_no2 asmR) | (have ha := (show wordP w a = true by with_reducible assumption); have hb := (show wordP v b = true by with_reducible assumption); have hw := qi7 (qas ha).1; have hv := qi7 (qas hb).1; (try simp only [qac (n := w + v) omG omG] at *); first | omega | exact di_eq (join_no3 omG) | exact di_eq (join_yes ha hb omG).symm) | skip
theorem qo8 (w a v b : Int) : CallsV Tryz.prog 109 [.dat (.i w), .dat (.i a), .dat (.i v), .dat (.i b)] (.dat (.i (qh4 w a v b))) := by
  refine oV Tryz.func109 ⟨?_⟩
  repeat' (first | ((with_reducible refine fun (K1 : KT) hK => ?_); refine stR ⟨?_⟩) | ((with_reducible show K1 _ _); subst hK; conv => whnf) | (with_reducible exact rfl) | refine st0 ⟨?_⟩ | ((with_reducible refine SplS.mk (fun h => ?_) (fun h => ?_)) <;> first | exact ctM | (subst h; conv => whnf) | (conv => whnf)) | refine stB ⟨?_⟩ ⟨?_⟩ | ((with_reducible first | refine pcI (g := 101) ?_ | show Exists _); refine ⟨_, qc1 .., rfl, ?_⟩; rotate_right; conv => whnf) | (intro h; conv => whnf))
  all_goals repeat clear hK K1
  all_goals first | exact di_eq (join_no1 asmR) | exact di_eq (join_no2 asmR) | (have ha := (show wordP w a = true by with_reducible assumption); have hb := (show wordP v b = true by with_reducible assumption); have hw := qi7 (qas ha).1; have hv := qi7 (qas hb).1; (try simp only [qac (n := w + v) omG omG] at *); first | (rw [uw (qas hb).1]; omega) | exact di_eq (join_no3 omG) | (refine di_eq ?_; rw [uw (qas hb).1]; exact (join_yes ha hb omG).symm)) | skip
theorem qoe (w a n : Int) (s : Bool) : CallsV Tryz.prog 172 [.dat (.i w), .dat (.i a), .dat (.i n), .dat (.bool s)] (.dat (.i (qd1 w a n s))) := by
  refine oV Tryz.func172 ⟨?_⟩
  repeat' (first | ((with_reducible refine fun (K1 : KT) hK => ?_); refine stR ⟨?_⟩) | ((with_reducible show K1 _ _); subst hK; conv => whnf) | (with_reducible exact rfl) | refine st0 ⟨?_⟩ | ((with_reducible refine SplS.mk (fun h => ?_) (fun h => ?_)) <;> first | exact ctM | ((fail_if_success (have _x : @Eq Bool _ _ := h)); subst h; conv => whnf) | (conv => whnf)) | ((with_reducible first | refine pcI (g := 111) ?_ | show Exists _); refine ⟨_, qc7 .., rfl, ?_⟩; rotate_right; conv => whnf) | ((with_reducible first | refine pcI (g := 30) ?_ | show Exists _); refine ⟨_, qh8 .., rfl, ?_⟩; rotate_right; conv => whnf) | ((with_reducible first | refine pcI (g := 194) ?_ | show Exists _); refine ⟨_, qkg .., rfl, ?_⟩; rotate_right; conv => whnf) | (intro h; conv => whnf))
  all_goals repeat clear hK K1
  all_goals first | exact di_eq (wid_no1 asmR) | exact di_eq (wid_no2 omG) | exact di_eq (wid_T asmR omG asmR) | exact di_eq (wid_F asmR omG asmR) | skip
theorem qo6 (w a n : Int) (s : Bool) : CallsV Tryz.prog 108 [.dat (.i w), .dat (.i a), .dat (.i n), .dat (.bool s)] (.dat (.i (qd1 w a n s))) := by
  refine oV Tryz.func108 ⟨?_⟩
  repeat' (first | ((with_reducible refine fun (K1 : KT) hK => ?_); refine stR ⟨?_⟩) | ((with_reducible show K1 _ _); subst hK; conv => whnf) | (with_reducible exact rfl) | refine st0 ⟨?_⟩ | ((with_reducible refine SplS.mk (fun h => ?_) (fun h => ?_)) <;> first | exact ctM | ((fail_if_success (have _x : @Eq Bool _ _ := h)); subst h; conv => whnf) | (conv => whnf)) | ((with_reducible first | refine pcI (g := 101) ?_ | show Exists _); refine ⟨_, qc1 .., rfl, ?_⟩; rotate_right; conv => whnf) | ((with_reducible first | refine pcI (g := 128) ?_ | show Exists _); refine ⟨_, qea .., rfl, ?_⟩; rotate_right; conv => whnf) | ((with_reducible first | refine pcI (g := 138) ?_ | show Exists _); refine ⟨_, qic .., rfl, ?_⟩; rotate_right; conv => whnf) | ((with_reducible first | refine pcI (g := 139) ?_ | show Exists _); refine ⟨_, qhe .., rfl, ?_⟩; rotate_right; conv => whnf) | (intro h; conv => whnf))
  all_goals repeat clear hK K1
  all_goals first | exact di_eq (wid_no1 asmR) | (simp only [inP, Bool.and_eq_true, Bool.and_eq_false_iff, decide_eq_true_eq, decide_eq_false_iff_not] at *; first | exact di_eq (wid_no2 (by have := qi7 (qas (show wordP w a = true by with_reducible assumption)).1; omega)) | exact di_eq (wid_T asmR omG asmR) | exact di_eq (wid_F asmR omG asmR)) | skip
theorem i_evC (op w n : Int) (nm : ByteArray) (ks : List V.Term) (ho : op = 0) : CallsV Tryz.prog 68 [.agg [.dat (.i op), .dat (.i w), .dat (.i n), .dat (.str nm), .dat (.seq .terms ks)], .nilm] (.dat (.i n)) := by
  refine oV Tryz.func68 ⟨?_⟩
  repeat' (first | ((with_reducible refine fun (K1 : KT) hK => ?_); refine stR ⟨?_⟩) | ((with_reducible show K1 _ _); subst hK; conv => whnf) | (with_reducible exact rfl) | refine st0 ⟨?_⟩ | ((with_reducible refine SplS.mk (fun h => ?_) (fun h => ?_)) <;> first | exact ctM | (subst h; conv => whnf) | (conv => whnf)) | (intro h; conv => whnf))
  all_goals repeat clear hK K1
  all_goals first | rfl | contradiction | skip
section
variable {t : V.Term} {x : List Int}
theorem ap_u (ht : okT t = true) (ho : t.op = 1 ∨ t.op = 2) : apT t x = qdg t.op t.w (xAt x 0) := by unfold apT; rw [if_pos ho, fit_u ht ho]
theorem ap_b (ho : 3 ≤ t.op ∧ t.op ≤ 16) : apT t x = qa2 t.op (k0 t).w (xAt x 0) (xAt x 1) := by unfold apT; rw [if_neg omG, if_pos ho]
theorem ap_i1 (ho : t.op = 17) (h : x.getD (Int.toNat 0) K.ints.dflt = 1) : apT t x = xAt x 1 := by unfold apT; rw [if_neg omG, if_neg omG, if_pos ho]; exact if_pos h
theorem ap_i2 (ho : t.op = 17) (h : ¬ x.getD (Int.toNat 0) K.ints.dflt = 1) : apT t x = xAt x 2 := by unfold apT; rw [if_neg omG, if_neg omG, if_pos ho]; exact if_neg h
theorem ap_j (ho : t.op = 18) : apT t x = qh4 (k0 t).w (xAt x 0) (k1 t).w (xAt x 1) := by unfold apT; rw [if_neg omG, if_neg omG, if_neg omG, if_pos ho]
theorem ap_c (ho : t.op = 19) : apT t x = cutP (k0 t).w (xAt x 0) t.n t.w := by unfold apT; rw [if_neg omG, if_neg omG, if_neg omG, if_neg omG, if_pos ho]
theorem ap_g (ho : t.op = 20 ∨ t.op = 21) : apT t x = qd1 (k0 t).w (xAt x 0) t.w (t.op == 21) := by unfold apT; rw [if_neg omG, if_neg omG, if_neg omG, if_neg omG, if_neg omG]
theorem qc4 (ks : List V.Term) (i : Nat) : xAt (nums ks) i = (kAt ks i).n := by
  unfold xAt nums kAt
  rw [List.getD_eq_getElem?_getD, List.getD_eq_getElem?_getD, List.getElem?_map]
  cases ks[i]? <;> rfl
theorem qmi {ks : List V.Term} {i : Nat} (h : qb2 ks = true) (hi : i < ks.length) : (kAt ks i).op = 0 := by
  have e : kAt ks i = ks[i] := by rw [kAt, List.getD_eq_getElem?_getD, List.getElem?_eq_getElem hi]; rfl
  rw [e]
  exact of_decide_eq_true (List.all_eq_true.1 h _ (List.getElem_mem hi))
theorem cut_n (ht : okT t = true) (ho : t.op = 19) : t.n ≤ 1048576 := by
  have h1 := qh5 ht ho
  have h2 := qdu (ok0 ht omG)
  have h3 := qdu ht
  omega
end
theorem qfn {a b : Int} (h : a = b) : Dat.i b = Dat.int .i64 a := congrArg Dat.i h.symm
section
variable {t : V.Term}
theorem va_u (ht : okT t = true) (ho : t.op = 1 ∨ t.op = 2) : qdg t.op (k0 t).w (k0 t).n = apT t (nums t.kids) := by rw [ap_u ht ho, qc4, fit_u ht ho]
theorem va_b (ho : 3 ≤ t.op ∧ t.op ≤ 16) : qa2 t.op (k0 t).w (k0 t).n (k1 t).n = apT t (nums t.kids) := by rw [ap_b ho, qc4, qc4]
theorem va_i1 (ho : t.op = 17) (h : (t.kids.getD (Int.toNat 0) K.terms.dflt).n = 1) : (k1 t).n = apT t (nums t.kids) := by rw [ap_i1 ho ((qc4 t.kids 0).trans h), qc4]
theorem va_i2 (ho : t.op = 17) (h : ¬ (t.kids.getD (Int.toNat 0) K.terms.dflt).n = 1) : (k2 t).n = apT t (nums t.kids) := by rw [ap_i2 ho (fun e => h ((qc4 t.kids 0).symm.trans e)), qc4]
theorem va_j (ho : t.op = 18) : qh4 (k0 t).w (k0 t).n (k1 t).w (k1 t).n = apT t (nums t.kids) := by rw [ap_j ho, qc4, qc4]
theorem va_c (ho : t.op = 19) : cutP (k0 t).w (k0 t).n t.n t.w = apT t (nums t.kids) := by rw [ap_c ho, qc4]
theorem va_g (ho : t.op = 20 ∨ t.op = 21) : qd1 (k0 t).w (k0 t).n t.w (t.op == 21) = apT t (nums t.kids) := by rw [ap_g ho, qc4]
end
theorem s_l02Apply (t : V.Term) (x : List Int) (ht : okT t = true) (ho : 1 ≤ t.op ∧ t.op ≤ 21) (hx : x.length = t.kids.length) : CallsV Tryz.prog 147 [.agg [.dat (.i t.op), .dat (.i t.w), .dat (.i t.n), .dat (.str t.name), .dat (.seq .terms t.kids)], .dat (.seq .ints x)] (.dat (.i (apT t x))) := by
  refine oV Tryz.func147 ⟨?_⟩
  repeat' (first | ((with_reducible refine fun (K1 : KT) hK => ?_); refine stR ⟨?_⟩) | ((with_reducible show K1 _ _); subst hK; conv => whnf) | (with_reducible exact rfl) | refine st0 ⟨?_⟩ | ((with_reducible refine SplS.mk (fun h => ?_) (fun h => ?_)) <;> first | exact ctM | (subst h; conv => whnf) | (conv => whnf)) | refine stB ⟨?_⟩ ⟨?_⟩ | ((with_reducible first | refine pcI (g := 38) ?_ | show Exists _); refine ⟨_, s_l01In .., rfl, ?_⟩; rotate_right; conv => whnf) | ((with_reducible first | refine pcI (g := 168) ?_ | show Exists _); refine ⟨_, qm1 .., rfl, ?_⟩; rotate_right; conv => whnf) | ((with_reducible first | refine pcI (g := 169) ?_ | show Exists _); refine ⟨_, qa0 .., rfl, ?_⟩; rotate_right; conv => whnf) | ((with_reducible first | refine pcI (g := 170) ?_ | show Exists _); refine ⟨_, qog .., rfl, ?_⟩; rotate_right; conv => whnf) | ((with_reducible first | refine pcI (g := 171) ?_ | show Exists _); refine ⟨_, s_CutWord (hl := ?_) .., rfl, ?_⟩; rotate_right; conv => whnf) | ((with_reducible first | refine pcI (g := 172) ?_ | show Exists _); refine ⟨_, qoe .., rfl, ?_⟩; rotate_right; conv => whnf) | (intro h; conv => whnf))
  all_goals repeat clear hK K1
  all_goals (simp only [inP, Bool.and_eq_true, Bool.and_eq_false_iff, decide_eq_true_eq, decide_eq_false_iff_not] at *; have l1 := qjx ht; have l2 := qhb ht; have l3 := qgn ht; first | omega | exact cut_n ht omG | exact di_eq (ap_u ht omG) | exact di_eq (ap_b omG) | exact di_eq (ap_i1 omG asmR) | exact di_eq (ap_i2 omG asmR) | exact di_eq (ap_j omG) | exact di_eq (ap_c omG) | exact di_eq (ap_g omG) | skip)
theorem i_evA (t : V.Term) (ht : okT t = true) (ho : 1 ≤ t.op ∧ t.op ≤ 21) (hc : qb2 t.kids = true) : CallsV Tryz.prog 68 [.agg [.dat (.i t.op), .dat (.i t.w), .dat (.i t.n), .dat (.str t.name), .dat (.seq .terms t.kids)], .nilm] (.dat (.i (apT t (nums t.kids)))) := by
  refine oV Tryz.func68 ⟨?_⟩
  repeat' (first | ((with_reducible refine fun (K1 : KT) hK => ?_); refine stR ⟨?_⟩) | ((with_reducible show K1 _ _); subst hK; conv => whnf) | (with_reducible exact rfl) | refine st0 ⟨?_⟩ | ((with_reducible refine SplS.mk (fun h => ?_) (fun h => ?_)) <;> first | exact ctM | (subst h; conv => whnf) | (conv => whnf)) | refine stB ⟨?_⟩ ⟨?_⟩ | ((with_reducible first | refine pcI (g := 68) ?_ | show Exists _); refine ⟨_, i_evC (ho := ?_) .., rfl, ?_⟩; rotate_right; conv => whnf) | ((with_reducible first | refine pcI (g := 106) ?_ | show Exists _); refine ⟨_, qnr .., rfl, ?_⟩; rotate_right; conv => whnf) | ((with_reducible first | refine pcI (g := 107) ?_ | show Exists _); refine ⟨_, i_CutWord (hl := ?_) .., rfl, ?_⟩; rotate_right; conv => whnf) | ((with_reducible first | refine pcI (g := 108) ?_ | show Exists _); refine ⟨_, qo6 .., rfl, ?_⟩; rotate_right; conv => whnf) | ((with_reducible first | refine pcI (g := 109) ?_ | show Exists _); refine ⟨_, qo8 .., rfl, ?_⟩; rotate_right; conv => whnf) | ((with_reducible first | refine pcI (g := 110) ?_ | show Exists _); refine ⟨_, qa1 .., rfl, ?_⟩; rotate_right; conv => whnf) | (intro h; conv => whnf))
  all_goals repeat clear hK K1
  all_goals (have l1 := qjx ht; have l2 := qhb ht; have l3 := qgn ht; first | omega | exact cut_n ht omG | exact qmi hc (i := 0) omG | exact qmi hc (i := 1) omG | exact qmi hc (i := 2) omG | exact qfn  (va_u ht omG) | exact qfn  (va_b omG) | exact qfn  (va_i1 omG asmR) | exact qfn  (va_i2 omG asmR) | exact qfn  (va_j omG) | exact qfn  (va_c omG) | exact qfn  (va_g omG) | skip)
end Vg
