/- Operations on words by terms: contracts. Conditions: the term is good, and its kids are constants. -/
import Derived.Test.YtjlffejifadkiaaGreatDoorTermV
import Derived.Test.YtjlffejifadkiaaGreatDoorRg
namespace Vg
open Go Go.Proofs
set_option maxRecDepth 100000
set_option maxHeartbeats 40000000
theorem qcp {w a low n : Int} (h : wordP w a = false) : mD w a low n = -1 := if_neg fun k => by rw [k.1] at h; cases h
theorem qco {w a low n : Int} (h : ¬ (0 ≤ low ∧ 1 ≤ n ∧ n ≤ w - low)) : mD w a low n = -1 := if_neg fun k => h k.2
theorem qcn {w a low n : Int} (h : wordP w a = true) (h2 : 0 ≤ low ∧ 1 ≤ n ∧ n ≤ w - low) : mD w a low n = z7 n (Int.fdiv a (2 ^ min low.toNat IntKind.i64.bits)) := if_pos ⟨h, h2⟩
theorem qah {w a v b : Int} (h : wordP w a = false) : lC w a v b = -1 := if_neg fun k => by rw [k.1] at h; cases h
theorem qag {w a v b : Int} (h : wordP v b = false) : lC w a v b = -1 := if_neg fun k => by rw [k.2.1] at h; cases h
theorem qaf {w a v b : Int} (h : ¬ w + v ≤ 16) : lC w a v b = -1 := if_neg fun k => h k.2.2
theorem qae {w a v b : Int} (ha : wordP w a = true) (hb : wordP v b = true) (h : w + v ≤ 16) : IntKind.i64.wrap (IntKind.i64.wrap (a * 2 ^ min v.toNat IntKind.i64.bits) + b) = lC w a v b := by
  obtain ⟨hw, a0, a1⟩ := k5 ha
  obtain ⟨hv, b0, b1⟩ := k5 hb
  have w1 := gD hw
  have v1 := gD hv
  have em : min v.toNat IntKind.i64.bits = v.toNat := by
    have : IntKind.i64.bits = 64 := rfl
    omega
  have hp : (0 : Int) < 2 ^ v.toNat := Int.pow_pos (by decide)
  have h1 : a * 2 ^ v.toNat ≤ 2 ^ w.toNat * 2 ^ v.toNat := Int.mul_le_mul_of_nonneg_right omG omG
  have h2 : (2 : Int) ^ w.toNat * 2 ^ v.toNat = 2 ^ (w + v).toNat := by
    rw [← Int.pow_add]
    congr 1
    omega
  have h3 : (2 : Int) ^ (w + v).toNat ≤ 65536 := (wf (w := w + v) (by simp [inP]; omega)).s2
  have h4 : (2 : Int) ^ v.toNat ≤ 65536 := (wf hv).s2
  have h0 : 0 ≤ a * 2 ^ v.toNat := Int.mul_nonneg a0 omG
  rw [em, wrap_id (n := a * 2 ^ v.toNat) omG omG, wrap_id omG omG]
  unfold lC
  rw [if_pos ⟨ha, hb, h⟩]
theorem bV {w a n : Int} {s : Bool} (h : wordP w a = false) : jB w a n s = -1 := if_neg fun k => by rw [k.1] at h; cases h
theorem aV {w a n : Int} {s : Bool} (h : ¬ (w ≤ n ∧ n ≤ 16)) : jB w a n s = -1 := if_neg fun k => h k.2
theorem wid_T {w a n : Int} {s : Bool} (h : wordP w a = true) (h2 : w ≤ n ∧ n ≤ 16) (hs : s = true) : jB w a n s = z7 n (bA w a) := by unfold jB; rw [if_pos ⟨h, h2⟩, if_pos hs]
theorem wid_F {w a n : Int} {s : Bool} (h : wordP w a = true) (h2 : w ≤ n ∧ n ≤ 16) (hs : s = false) : jB w a n s = a := by unfold jB; rw [if_pos ⟨h, h2⟩, if_neg (by rw [hs]; decide)]
theorem qfk (w a low n : Int) (hl : low ≤ 1048576) : CallsV Tryz.prog 171 [.dat (.i w), .dat (.i a), .dat (.i low), .dat (.i n)] (.dat (.i (mD w a low n))) := by
  refine oV Tryz.func171 ⟨?_⟩
  repeat' (first | ((with_reducible refine fun (K1 : KT) hK => ?_); refine l5 ⟨?_⟩) | ((with_reducible show K1 _ _); subst hK; conv => whnf) | (with_reducible exact rfl) | refine st0 ⟨?_⟩ | ((with_reducible refine SplS.mk (fun h => ?_) (fun h => ?_)) <;> first | exact r0 | (subst h; conv => whnf) | (conv => whnf)) | refine f1 ⟨?_⟩ ⟨?_⟩ | ((with_reducible first | refine n0 (g := 111) ?_ | show Exists _); refine ⟨_, qD .., rfl, ?_⟩; rotate_right; conv => whnf) | ((with_reducible first | refine n0 (g := 30) ?_ | show Exists _); refine ⟨_, cI .., rfl, ?_⟩; rotate_right; conv => whnf) | (intro h; conv => whnf))
  all_goals repeat clear hK K1
  all_goals first | exact di_eq (qcp asmR) | (have ha := (show wordP w a = true by with_reducible assumption); have hw := gD (k5 ha).1; (try simp only [wrap_id (n := w - n) omG omG] at *); first | omega | exact di_eq (qco omG) | exact di_eq (qcn ha omG)) | skip
theorem qbc (w a low n : Int) (hl : low ≤ 1048576) : CallsV Tryz.prog 107 [.dat (.i w), .dat (.i a), .dat (.i low), .dat (.i n)] (.dat (.i (mD w a low n))) := by
  refine oV Tryz.func107 ⟨?_⟩
  repeat' (first | ((with_reducible refine fun (K1 : KT) hK => ?_); refine l5 ⟨?_⟩) | ((with_reducible show K1 _ _); subst hK; conv => whnf) | (with_reducible exact rfl) | refine st0 ⟨?_⟩ | ((with_reducible refine SplS.mk (fun h => ?_) (fun h => ?_)) <;> first | exact r0 | (subst h; conv => whnf) | (conv => whnf)) | refine f1 ⟨?_⟩ ⟨?_⟩ | ((with_reducible first | refine n0 (g := 101) ?_ | show Exists _); refine ⟨_, iD .., rfl, ?_⟩; rotate_right; conv => whnf) | (intro h; conv => whnf))
  all_goals repeat clear hK K1
  all_goals first | exact di_eq (qcp asmR) | (have ha := (show wordP w a = true by with_reducible assumption); have hw := gD (k5 ha).1; (try simp only [wrap_id (n := w - low) omG omG] at *); first | (rw [pL omG omG]; omega) | exact di_eq (qco omG) | (have hn : inP n 1 16 = true := (by simp [inP]; omega); refine di_eq ?_; rw [qcn ha omG, cP hn, uw hn, pL (n := low) omG omG])) | skip
theorem qfg (w a v b : Int) : CallsV Tryz.prog 170 [.dat (.i w), .dat (.i a), .dat (.i v), .dat (.i b)] (.dat (.i (lC w a v b))) := by
  refine oV Tryz.func170 ⟨?_⟩
  repeat' (first | ((with_reducible refine fun (K1 : KT) hK => ?_); refine l5 ⟨?_⟩) | ((with_reducible show K1 _ _); subst hK; conv => whnf) | (with_reducible exact rfl) | refine st0 ⟨?_⟩ | ((with_reducible refine SplS.mk (fun h => ?_) (fun h => ?_)) <;> first | exact r0 | (subst h; conv => whnf) | (conv => whnf)) | refine f1 ⟨?_⟩ ⟨?_⟩ | ((with_reducible first | refine n0 (g := 111) ?_ | show Exists _); refine ⟨_, qD .., rfl, ?_⟩; rotate_right; conv => whnf) | (intro h; conv => whnf))
  all_goals repeat clear hK K1
  all_goals first | exact di_eq (qah asmR) | exact di_eq (qag asmR) | (have ha := (show wordP w a = true by with_reducible assumption); have hb := (show wordP v b = true by with_reducible assumption); have hw := gD (k5 ha).1; have hv := gD (k5 hb).1; (try simp only [wrap_id (n := w + v) omG omG] at *); first | omega | exact di_eq (qaf omG) | exact di_eq (qae ha hb omG).symm) | skip
theorem qa9 (w a v b : Int) : CallsV Tryz.prog 109 [.dat (.i w), .dat (.i a), .dat (.i v), .dat (.i b)] (.dat (.i (lC w a v b))) := by
  refine oV Tryz.func109 ⟨?_⟩
  repeat' (first | ((with_reducible refine fun (K1 : KT) hK => ?_); refine l5 ⟨?_⟩) | ((with_reducible show K1 _ _); subst hK; conv => whnf) | (with_reducible exact rfl) | refine st0 ⟨?_⟩ | ((with_reducible refine SplS.mk (fun h => ?_) (fun h => ?_)) <;> first | exact r0 | (subst h; conv => whnf) | (conv => whnf)) | refine f1 ⟨?_⟩ ⟨?_⟩ | ((with_reducible first | refine n0 (g := 101) ?_ | show Exists _); refine ⟨_, iD .., rfl, ?_⟩; rotate_right; conv => whnf) | (intro h; conv => whnf))
  all_goals repeat clear hK K1
  all_goals first | exact di_eq (qah asmR) | exact di_eq (qag asmR) | (have ha := (show wordP w a = true by with_reducible assumption); have hb := (show wordP v b = true by with_reducible assumption); have hw := gD (k5 ha).1; have hv := gD (k5 hb).1; (try simp only [wrap_id (n := w + v) omG omG] at *); first | (rw [uw (k5 hb).1]; omega) | exact di_eq (qaf omG) | (refine di_eq ?_; rw [uw (k5 hb).1]; exact (qae ha hb omG).symm)) | skip
theorem qfb (w a n : Int) (s : Bool) : CallsV Tryz.prog 172 [.dat (.i w), .dat (.i a), .dat (.i n), .dat (.bool s)] (.dat (.i (jB w a n s))) := by
  refine oV Tryz.func172 ⟨?_⟩
  repeat' (first | ((with_reducible refine fun (K1 : KT) hK => ?_); refine l5 ⟨?_⟩) | ((with_reducible show K1 _ _); subst hK; conv => whnf) | (with_reducible exact rfl) | refine st0 ⟨?_⟩ | ((with_reducible refine SplS.mk (fun h => ?_) (fun h => ?_)) <;> first | exact r0 | ((fail_if_success (have _x : @Eq Bool _ _ := h)); subst h; conv => whnf) | (conv => whnf)) | ((with_reducible first | refine n0 (g := 111) ?_ | show Exists _); refine ⟨_, qD .., rfl, ?_⟩; rotate_right; conv => whnf) | ((with_reducible first | refine n0 (g := 30) ?_ | show Exists _); refine ⟨_, cI .., rfl, ?_⟩; rotate_right; conv => whnf) | ((with_reducible first | refine n0 (g := 194) ?_ | show Exists _); refine ⟨_, cX .., rfl, ?_⟩; rotate_right; conv => whnf) | (intro h; conv => whnf))
  all_goals repeat clear hK K1
  all_goals first | exact di_eq (bV asmR) | exact di_eq (aV omG) | exact di_eq (wid_T asmR omG asmR) | exact di_eq (wid_F asmR omG asmR) | skip
theorem qa6 (w a n : Int) (s : Bool) : CallsV Tryz.prog 108 [.dat (.i w), .dat (.i a), .dat (.i n), .dat (.bool s)] (.dat (.i (jB w a n s))) := by
  refine oV Tryz.func108 ⟨?_⟩
  repeat' (first | ((with_reducible refine fun (K1 : KT) hK => ?_); refine l5 ⟨?_⟩) | ((with_reducible show K1 _ _); subst hK; conv => whnf) | (with_reducible exact rfl) | refine st0 ⟨?_⟩ | ((with_reducible refine SplS.mk (fun h => ?_) (fun h => ?_)) <;> first | exact r0 | ((fail_if_success (have _x : @Eq Bool _ _ := h)); subst h; conv => whnf) | (conv => whnf)) | ((with_reducible first | refine n0 (g := 101) ?_ | show Exists _); refine ⟨_, iD .., rfl, ?_⟩; rotate_right; conv => whnf) | ((with_reducible first | refine n0 (g := 128) ?_ | show Exists _); refine ⟨_, xI .., rfl, ?_⟩; rotate_right; conv => whnf) | ((with_reducible first | refine n0 (g := 138) ?_ | show Exists _); refine ⟨_, uN .., rfl, ?_⟩; rotate_right; conv => whnf) | ((with_reducible first | refine n0 (g := 139) ?_ | show Exists _); refine ⟨_, oS .., rfl, ?_⟩; rotate_right; conv => whnf) | (intro h; conv => whnf))
  all_goals repeat clear hK K1
  all_goals first | exact di_eq (bV asmR) | (simp only [inP, Bool.and_eq_true, Bool.and_eq_false_iff, decide_eq_true_eq, decide_eq_false_iff_not] at *; first | exact di_eq (aV (by have := gD (k5 (show wordP w a = true by with_reducible assumption)).1; omega)) | exact di_eq (wid_T asmR omG asmR) | exact di_eq (wid_F asmR omG asmR)) | skip
theorem i_evC (op w n : Int) (nm : ByteArray) (ks : List V.Term) (ho : op = 0) : CallsV Tryz.prog 68 [.agg [.dat (.i op), .dat (.i w), .dat (.i n), .dat (.str nm), .dat (.seq .terms ks)], .nilm] (.dat (.i n)) := by
  refine oV Tryz.func68 ⟨?_⟩
  repeat' (first | ((with_reducible refine fun (K1 : KT) hK => ?_); refine l5 ⟨?_⟩) | ((with_reducible show K1 _ _); subst hK; conv => whnf) | (with_reducible exact rfl) | refine st0 ⟨?_⟩ | ((with_reducible refine SplS.mk (fun h => ?_) (fun h => ?_)) <;> first | exact r0 | (subst h; conv => whnf) | (conv => whnf)) | (intro h; conv => whnf))
  all_goals repeat clear hK K1
  all_goals first | rfl | contradiction | skip
section
variable {t : V.Term} {x : List Int}
theorem ap_u (ht : okT t = true) (ho : t.op = 1 ∨ t.op = 2) : o5 t x = aA t.op t.w (xAt x 0) := by unfold o5; rw [if_pos ho, nH ht ho]
theorem ap_b (ho : 3 ≤ t.op ∧ t.op ≤ 16) : o5 t x = w5 t.op (k0 t).w (xAt x 0) (xAt x 1) := by unfold o5; rw [if_neg omG, if_pos ho]
theorem ap_i1 (ho : t.op = 17) (h : x.getD (Int.toNat 0) K.ints.dflt = 1) : o5 t x = xAt x 1 := by unfold o5; rw [if_neg omG, if_neg omG, if_pos ho]; exact if_pos h
theorem ap_i2 (ho : t.op = 17) (h : ¬ x.getD (Int.toNat 0) K.ints.dflt = 1) : o5 t x = xAt x 2 := by unfold o5; rw [if_neg omG, if_neg omG, if_pos ho]; exact if_neg h
theorem ap_j (ho : t.op = 18) : o5 t x = lC (k0 t).w (xAt x 0) (k1 t).w (xAt x 1) := by unfold o5; rw [if_neg omG, if_neg omG, if_neg omG, if_pos ho]
theorem ap_c (ho : t.op = 19) : o5 t x = mD (k0 t).w (xAt x 0) t.n t.w := by unfold o5; rw [if_neg omG, if_neg omG, if_neg omG, if_neg omG, if_pos ho]
theorem ap_g (ho : t.op = 20 ∨ t.op = 21) : o5 t x = jB (k0 t).w (xAt x 0) t.w (t.op == 21) := by unfold o5; rw [if_neg omG, if_neg omG, if_neg omG, if_neg omG, if_neg omG]
theorem sC (ks : List V.Term) (i : Nat) : xAt (nums ks) i = (kAt ks i).n := by
  unfold xAt nums kAt
  rw [List.getD_eq_getElem?_getD, List.getD_eq_getElem?_getD, List.getElem?_map]
  cases ks[i]? <;> rfl
theorem tO {ks : List V.Term} {i : Nat} (h : j4 ks = true) (hi : i < ks.length) : (kAt ks i).op = 0 := by
  have e : kAt ks i = ks[i] := by rw [kAt, List.getD_eq_getElem?_getD, List.getElem?_eq_getElem hi]; rfl
  rw [e]
  exact of_decide_eq_true (List.all_eq_true.1 h _ (List.getElem_mem hi))
theorem cut_n (ht : okT t = true) (ho : t.op = 19) : t.n ≤ 1048576 := by
  have h1 := nC ht ho
  have h2 := k8 (ok0 ht omG)
  have h3 := k8 ht
  omega
end
theorem eE {a b : Int} (h : a = b) : Dat.i b = Dat.int .i64 a := congrArg Dat.i h.symm
theorem bF {a b : Int} (h : a = b) : AV.dat (Dat.int .i64 a) = AV.dat (Dat.i b) := by rw [h]
section
variable {t : V.Term}
theorem va_u (ht : okT t = true) (ho : t.op = 1 ∨ t.op = 2) : aA t.op (k0 t).w (k0 t).n = o5 t (nums t.kids) := by rw [ap_u ht ho, sC, nH ht ho]
theorem va_b (ho : 3 ≤ t.op ∧ t.op ≤ 16) : w5 t.op (k0 t).w (k0 t).n (k1 t).n = o5 t (nums t.kids) := by rw [ap_b ho, sC, sC]
theorem va_i1 (ho : t.op = 17) (h : (t.kids.getD (Int.toNat 0) K.terms.dflt).n = 1) : (k1 t).n = o5 t (nums t.kids) := by rw [ap_i1 ho ((sC t.kids 0).trans h), sC]
theorem va_i2 (ho : t.op = 17) (h : ¬ (t.kids.getD (Int.toNat 0) K.terms.dflt).n = 1) : (k2 t).n = o5 t (nums t.kids) := by rw [ap_i2 ho (fun e => h ((sC t.kids 0).symm.trans e)), sC]
theorem va_j (ho : t.op = 18) : lC (k0 t).w (k0 t).n (k1 t).w (k1 t).n = o5 t (nums t.kids) := by rw [ap_j ho, sC, sC]
theorem va_c (ho : t.op = 19) : mD (k0 t).w (k0 t).n t.n t.w = o5 t (nums t.kids) := by rw [ap_c ho, sC]
theorem va_g (ho : t.op = 20 ∨ t.op = 21) : jB (k0 t).w (k0 t).n t.w (t.op == 21) = o5 t (nums t.kids) := by rw [ap_g ho, sC]
end
theorem zW (t : V.Term) (x : List Int) (ht : okT t = true) (ho : 1 ≤ t.op ∧ t.op ≤ 21) (hx : x.length = t.kids.length) : CallsV Tryz.prog 147 [.agg [.dat (.i t.op), .dat (.i t.w), .dat (.i t.n), .dat (.str t.name), .dat (.seq .terms t.kids)], .dat (.seq .ints x)] (.dat (.i (o5 t x))) := by
  refine oV Tryz.func147 ⟨?_⟩
  repeat' (first | ((with_reducible refine fun (K1 : KT) hK => ?_); refine l5 ⟨?_⟩) | ((with_reducible show K1 _ _); subst hK; conv => whnf) | (with_reducible exact rfl) | refine st0 ⟨?_⟩ | ((with_reducible refine SplS.mk (fun h => ?_) (fun h => ?_)) <;> first | exact r0 | (subst h; conv => whnf) | (conv => whnf)) | refine f1 ⟨?_⟩ ⟨?_⟩ | ((with_reducible first | refine n0 (g := 38) ?_ | show Exists _); refine ⟨_, s_l01In .., rfl, ?_⟩; rotate_right; conv => whnf) | ((with_reducible first | refine n0 (g := 168) ?_ | show Exists _); refine ⟨_, qfm .., rfl, ?_⟩; rotate_right; conv => whnf) | ((with_reducible first | refine n0 (g := 169) ?_ | show Exists _); refine ⟨_, dD .., rfl, ?_⟩; rotate_right; conv => whnf) | ((with_reducible first | refine n0 (g := 170) ?_ | show Exists _); refine ⟨_, qfg .., rfl, ?_⟩; rotate_right; conv => whnf) | ((with_reducible first | refine n0 (g := 171) ?_ | show Exists _); refine ⟨_, qfk (hl := ?_) .., rfl, ?_⟩; rotate_right; conv => whnf) | ((with_reducible first | refine n0 (g := 172) ?_ | show Exists _); refine ⟨_, qfb .., rfl, ?_⟩; rotate_right; conv => whnf) | (intro h; conv => whnf))
  all_goals repeat clear hK K1
  all_goals (simp only [inP, Bool.and_eq_true, Bool.and_eq_false_iff, decide_eq_true_eq, decide_eq_false_iff_not] at *; have l1 := jC ht; have l2 := dB ht; have l3 := rA ht; first | omega | exact cut_n ht omG | exact di_eq (ap_u ht omG) | exact di_eq (ap_b omG) | exact di_eq (ap_i1 omG asmR) | exact di_eq (ap_i2 omG asmR) | exact di_eq (ap_j omG) | exact di_eq (ap_c omG) | exact di_eq (ap_g omG) | skip)
theorem i_evA (t : V.Term) (ht : okT t = true) (ho : 1 ≤ t.op ∧ t.op ≤ 21) (hc : j4 t.kids = true) : CallsV Tryz.prog 68 [.agg [.dat (.i t.op), .dat (.i t.w), .dat (.i t.n), .dat (.str t.name), .dat (.seq .terms t.kids)], .nilm] (.dat (.i (o5 t (nums t.kids)))) := by
  refine oV Tryz.func68 ⟨?_⟩
  repeat' (first | ((with_reducible refine fun (K1 : KT) hK => ?_); refine l5 ⟨?_⟩) | ((with_reducible show K1 _ _); subst hK; conv => whnf) | (with_reducible exact rfl) | refine st0 ⟨?_⟩ | ((with_reducible refine SplS.mk (fun h => ?_) (fun h => ?_)) <;> first | exact r0 | (subst h; conv => whnf) | (conv => whnf)) | refine f1 ⟨?_⟩ ⟨?_⟩ | ((with_reducible first | refine n0 (g := 68) ?_ | show Exists _); refine ⟨_, i_evC (ho := ?_) .., rfl, ?_⟩; rotate_right; conv => whnf) | ((with_reducible first | refine n0 (g := 106) ?_ | show Exists _); refine ⟨_, qbe .., rfl, ?_⟩; rotate_right; conv => whnf) | ((with_reducible first | refine n0 (g := 107) ?_ | show Exists _); refine ⟨_, qbc (hl := ?_) .., rfl, ?_⟩; rotate_right; conv => whnf) | ((with_reducible first | refine n0 (g := 108) ?_ | show Exists _); refine ⟨_, qa6 .., rfl, ?_⟩; rotate_right; conv => whnf) | ((with_reducible first | refine n0 (g := 109) ?_ | show Exists _); refine ⟨_, qa9 .., rfl, ?_⟩; rotate_right; conv => whnf) | ((with_reducible first | refine n0 (g := 110) ?_ | show Exists _); refine ⟨_, tC .., rfl, ?_⟩; rotate_right; conv => whnf) | (intro h; conv => whnf))
  all_goals repeat clear hK K1
  all_goals (have l1 := jC ht; have l2 := dB ht; have l3 := rA ht; first | omega | exact cut_n ht omG | exact tO hc (i := 0) omG | exact tO hc (i := 1) omG | exact tO hc (i := 2) omG | exact eE  (va_u ht omG) | exact eE  (va_b omG) | exact eE  (va_i1 omG asmR) | exact eE  (va_i2 omG asmR) | exact eE  (va_j omG) | exact eE  (va_c omG) | exact eE  (va_g omG) | skip)
def b4 (t : V.Term) : AV := .agg [.dat (.i t.op), .dat (.i t.w), .dat (.i t.n), .dat (.str t.name), .dat (.seq .terms t.kids)]
theorem st_eq {K : AX → AState → Prop} {n : Nat} {tm tm' : Nat → AV} {blk blk' : Nat → Option Blk} (key : K .normal ⟨n, tm, blk⟩) (h1 : ∀ j, tm j = tm' j) (h2 : ∀ j, blk j = blk' j) : K .normal ⟨n, tm', blk'⟩ := by
  rw [← funext h1, ← funext h2]; exact key
structure Fr (p : Prop) : Prop where
  h : p
theorem j5 {B : List Blk} {y : Int} {x : AV} {l' l : List AV} (h : Fr (frzC B (.dat (.i y)) x ∧ iG B l' l)) : frzC B (.dat (.i y)) x ∧ iG B l' l := h.h
theorem u0 {B : List Blk} {L : List Nat} {t : V.Term} {o w n : Int} {nm : ByteArray} {ks : List V.Term} (h : t = ⟨o, w, n, nm, ks⟩) :
    frzC B (.dat (.i t.op)) (AV.numC L (.dat (.int .i64 o))) ∧ iG B [.dat (.i t.w), .dat (.i t.n), .dat (.str t.name), .dat (.seq .terms t.kids)] [AV.numC L (.dat (.int .i64 w)), AV.numC L (.dat (.int .i64 n)), AV.numC L (.dat (.str nm)), AV.numC L (.dat (.seq .terms ks))] := by
  subst h
  exact ⟨rfl, rfl, rfl, rfl, rfl, True.intro⟩
theorem vE {B : List Blk} {L : List Nat} {t : V.Term} {o w n : Int} {nm : ByteArray} (h : t = ⟨o, w, n, nm, []⟩) :
    frzC B (.dat (.i t.op)) (AV.numC L (.dat (.int .i64 o))) ∧ iG B [.dat (.i t.w), .dat (.i t.n), .dat (.str t.name), .dat (.seq .terms t.kids)] [AV.numC L (.dat (.int .i64 w)), AV.numC L (.dat (.int .i64 n)), AV.numC L (.dat (.str nm)), AV.numC L .nils] := by
  subst h
  exact ⟨rfl, rfl, rfl, rfl, rfl, True.intro⟩
theorem fr5M {B : List Blk} {L : List Nat} {t : V.Term} {o w n : Int} {nm : ByteArray} {ks : List V.Term} (h : t = ⟨o, w, n, nm, ks⟩) :
    frzM B (b4 t) (AV.numM L (.agg [.dat (.int .i64 o), .dat (.int .i64 w), .dat (.int .i64 n), .dat (.str nm), .dat (.seq .terms ks)])) := by
  subst h
  exact ⟨rfl, rfl, rfl, rfl, rfl, True.intro⟩
theorem fr5Mn {B : List Blk} {L : List Nat} {t : V.Term} {o w n : Int} {nm : ByteArray} (h : t = ⟨o, w, n, nm, []⟩) :
    frzM B (b4 t) (AV.numM L (.agg [.dat (.int .i64 o), .dat (.int .i64 w), .dat (.int .i64 n), .dat (.str nm), .nils])) := by
  subst h
  exact ⟨rfl, rfl, rfl, rfl, rfl, True.intro⟩
theorem t6 (op w n : Int) (nm : ByteArray) (ks : List V.Term) : CallsV Tryz.prog 135 [.agg [.dat (.i op), .dat (.i w), .dat (.i n), .dat (.str nm), .dat (.seq .terms ks)]] (.dat (.bool (op == 0))) := by
  refine oV Tryz.func135 ⟨?_⟩
  repeat' (first | ((with_reducible refine fun (K1 : KT) hK => ?_); refine z1 ⟨?_⟩) | ((with_reducible show K1 _ _); subst hK; conv => whnf) | (with_reducible exact rfl) | refine st0 ⟨?_⟩ | ((with_reducible refine SplS.mk (fun h => ?_) (fun h => ?_)) <;> first | exact r0 | (subst h; conv => whnf) | (conv => whnf)) | (intro h; conv => whnf))
  all_goals repeat clear hK K1
  all_goals first | rfl | skip
theorem o7 (op w n : Int) (nm : ByteArray) (ks : List V.Term) (m : Int) : CallsV Tryz.prog 132 [.agg [.dat (.i op), .dat (.i w), .dat (.i n), .dat (.str nm), .dat (.seq .terms ks)], .dat (.i m)] (.dat (.bool (decide (op = 0 ∧ n = m)))) := by
  refine oV Tryz.func132 ⟨?_⟩
  repeat' (first | ((with_reducible refine fun (K1 : KT) hK => ?_); refine z1 ⟨?_⟩) | ((with_reducible show K1 _ _); subst hK; conv => whnf) | (with_reducible exact rfl) | refine st0 ⟨?_⟩ | ((with_reducible refine SplS.mk (fun h => ?_) (fun h => ?_)) <;> first | exact r0 | (subst h; conv => whnf) | (conv => whnf)) | (intro h; conv => whnf))
  all_goals repeat clear hK K1
  all_goals first | rfl | (refine db_eq ?_; rw [Bool.eq_iff_iff]; simp; done) | (refine db_eq ?_; rw [Bool.eq_iff_iff]; simp [*]; done) | (refine db_eq ?_; exact decide_eq_false omG) | (exact db_eq (by have h1 := (by with_reducible assumption : op = 0); rw [Bool.eq_iff_iff]; simp [h1])) | (exact db_eq (by rw [Bool.eq_iff_iff]; simp)) | (exact db_eq (by simp [*])) | skip
theorem s9 (op : Int) : CallsV Tryz.prog 208 [.dat (.i op)] (.dat (.bool (decide (d4 op)))) := by
  refine oV Tryz.func208 ⟨?_⟩
  repeat' (first | ((with_reducible refine fun (K1 : KT) hK => ?_); refine z1 ⟨?_⟩) | ((with_reducible show K1 _ _); subst hK; conv => whnf) | (with_reducible exact rfl) | refine st0 ⟨?_⟩ | ((with_reducible refine SplS.mk (fun h => ?_) (fun h => ?_)) <;> first | exact r0 | (subst h; conv => whnf) | (conv => whnf)) | (intro h; conv => whnf))
  all_goals repeat clear hK K1
  all_goals first | (refine db_eq ?_; unfold d4; first | (exact decide_eq_true omG) | (exact decide_eq_false omG)) | skip
theorem i_ConstTerm (w n : Int) (h : wordP w n = true) : CallsV Tryz.prog 103 [.dat (.i w), .dat (.i n)] (.agg [.dat (.i 0), .dat (.i w), .dat (.i n), .dat (.str ByteArray.empty), .dat (.seq .terms [])]) := by
  refine oV Tryz.func103 ⟨?_⟩
  repeat' (first | ((with_reducible refine fun (K1 : KT) hK => ?_); refine z1 ⟨?_⟩) | ((with_reducible show K1 _ _); subst hK; conv => whnf) | (with_reducible refine j5 ?_) | (with_reducible exact rfl) | refine st0 ⟨?_⟩ | ((with_reducible refine SplS.mk (fun h => ?_) (fun h => ?_)) <;> first | exact r0 | (subst h; conv => whnf) | (conv => whnf)) | ((with_reducible first | refine n0 (g := 101) ?_ | show Exists _); refine ⟨_, iD .., rfl, ?_⟩; rotate_right; conv => whnf) | (intro h; conv => whnf))
  all_goals repeat clear hK K1
  all_goals first | exact ⟨vE (t := cT w n) rfl⟩ | exact rfl | exact True.intro | (exact absurd (h.symm.trans asmR) (by decide)) | skip
section
variable {t : V.Term}
theorem y7 (ht : okT t = true) (ho : t.op = 1 ∨ t.op = 2 ∨ t.op = 19 ∨ t.op = 20 ∨ t.op = 21) : (0 : Int) < t.kids.length := by rw [jC ht ho]; decide
theorem d3 (ht : okT t = true) (ho : (3 ≤ t.op ∧ t.op ≤ 16) ∨ t.op = 18) : (0 : Int) < t.kids.length := by rw [dB ht ho]; decide
theorem g4 (ht : okT t = true) (ho : (3 ≤ t.op ∧ t.op ≤ 16) ∨ t.op = 18) : (1 : Int) < t.kids.length := by rw [dB ht ho]; decide
theorem bB (ht : okT t = true) (ho : t.op = 17) : (0 : Int) < t.kids.length := by rw [rA ht ho]; decide
theorem aB (ht : okT t = true) (ho : t.op = 17) : (1 : Int) < t.kids.length := by rw [rA ht ho]; decide
theorem zA (ht : okT t = true) (ho : t.op = 17) : (2 : Int) < t.kids.length := by rw [rA ht ho]; decide
end
theorem tn2 : Int.toNat 2 = 2 := rfl
structure IHR (m : Nat) : Prop where
  call : ∀ (op w n : Int) (nm : ByteArray) (ks : List V.Term), okT ⟨op, w, n, nm, ks⟩ = true → f2 ⟨op, w, n, nm, ks⟩ < m →
    CallsV Tryz.prog 158 [.agg [.dat (.i op), .dat (.i w), .dat (.i n), .dat (.str nm), .dat (.seq .terms ks)]] (b4 (u2 ⟨op, w, n, nm, ks⟩))
theorem ih_red {m : Nat} (ih : IHR m) {op w n : Int} {nm : ByteArray} {ks : List V.Term} (hk : okT ⟨op, w, n, nm, ks⟩ = true) (hm : f2 ⟨op, w, n, nm, ks⟩ < m) :
    CallsV Tryz.prog 158 [.agg [.dat (.i op), .dat (.i w), .dat (.i n), .dat (.str nm), .dat (.seq .terms ks)]] (b4 (u2 ⟨op, w, n, nm, ks⟩)) := ih.call op w n nm ks hk hm
theorem i_remake (op w n : Int) (ks : List V.Term) (m : Nat) (ih : IHR m) (hk : okT (oT op w n ks) = true) (hm : f2 (oT op w n ks) < m) : CallsV Tryz.prog 207 [.dat (.i op), .dat (.i w), .dat (.i n), .dat (.seq .terms ks)] (b4 (u2 (oT op w n ks))) := by
  refine oV Tryz.func207 ⟨?_⟩
  repeat' (first | ((with_reducible refine fun (K1 : KT) hK => ?_); refine z1 ⟨?_⟩) | ((with_reducible show K1 _ _); subst hK; conv => whnf) | (with_reducible refine j5 ?_) | (with_reducible exact rfl) | refine st0 ⟨?_⟩ | ((with_reducible refine SplS.mk (fun h => ?_) (fun h => ?_)) <;> first | exact r0 | ((fail_if_success (have _x : @Eq Bool _ _ := h)); subst h; conv => whnf) | (conv => whnf)) | ((with_reducible first | refine n0 (g := 158) ?_ | show Exists _); refine ⟨_, ih_red (ih := by assumption) (hk := ?_) (hm := ?_) .., rfl, ?_⟩; rotate_right; conv => whnf) | (intro h; conv => whnf))
  all_goals repeat clear hK K1
  all_goals first | exact ⟨u0 (t := u2 (oT op w n ks)) (V.Term.eta _).symm⟩ | exact True.intro | (with_reducible assumption) | exact hk | exact hm | exact rfl | skip
section
variable {t x : V.Term} {b : Bool}
theorem l8 (ht : okT t = true) (ho : 1 ≤ t.op ∧ t.op ≤ 21) (hc : j4 t.kids = false) (hr : z4 t = (x, b)) : u2 t = if b = true then u2 x else x := by
  have hl : t.kids.length ≠ 0 := by
    intro e
    have h1 := jC ht
    have h2 := dB ht
    have h3 := rA ht
    omega
  cases b with
  | true => rw [if_pos rfl]; exact qgh ht hl hc hr
  | false => rw [if_neg Bool.false_ne_true]; exact qgg hl hc hr
end
end Vg
