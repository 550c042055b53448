/- Operations on words by terms: contracts. Conditions: the term is good, and its kids are constants. -/
import Derived.Test.YtndmanmhalpjgaaGreatDoorTermI
import Derived.Test.YtndmanmhalpjgaaGreatDoorRedQ
import Derived.Test.YtndmanmhalpjgaaGreatDoorTermV
import Derived.Test.YtndmanmhalpjgaaGreatDoorRg
namespace Vg
open Go Go.Proofs
set_option maxRecDepth 100000
set_option maxHeartbeats 40000000
theorem cut_no1 {w a low n : Int} (h : wordP w a = false) : x9 w a low n = -1 := if_neg fun k => by rw [k.1] at h; cases h
theorem cut_no2 {w a low n : Int} (h : ¬ (0 ≤ low ∧ 1 ≤ n ∧ n ≤ w - low)) : x9 w a low n = -1 := if_neg fun k => h k.2
theorem cut_yes {w a low n : Int} (h : wordP w a = true) (h2 : 0 ≤ low ∧ 1 ≤ n ∧ n ≤ w - low) : x9 w a low n = a7 n (Int.fdiv a (2 ^ min low.toNat IntKind.i64.bits)) := if_pos ⟨h, h2⟩
theorem nY {w a v b : Int} (h : wordP w a = false) : sB w a v b = -1 := if_neg fun k => by rw [k.1] at h; cases h
theorem mY {w a v b : Int} (h : wordP v b = false) : sB w a v b = -1 := if_neg fun k => by rw [k.2.1] at h; cases h
theorem lY {w a v b : Int} (h : ¬ w + v ≤ 16) : sB w a v b = -1 := if_neg fun k => h k.2.2
theorem kY {w a v b : Int} (ha : wordP w a = true) (hb : wordP v b = true) (h : w + v ≤ 16) : IntKind.i64.wrap (IntKind.i64.wrap (a * 2 ^ min v.toNat IntKind.i64.bits) + b) = sB w a v b := by
  obtain ⟨hw, a0, a1⟩ := w6 ha
  obtain ⟨hv, b0, b1⟩ := w6 hb
  have w1 := eE hw
  have v1 := eE hv
  have em : min v.toNat IntKind.i64.bits = v.toNat := by
    have : IntKind.i64.bits = 64 := rfl
    omega
  have hp : (0 : Int) < 2 ^ v.toNat := Int.pow_pos (by decide)
  have h1 : a * 2 ^ v.toNat ≤ 2 ^ w.toNat * 2 ^ v.toNat := Int.mul_le_mul_of_nonneg_right omG omG
  have h2 : (2 : Int) ^ w.toNat * 2 ^ v.toNat = 2 ^ (w + v).toNat := by
    rw [← Int.pow_add]
    congr 1
    omega
  have h3 : (2 : Int) ^ (w + v).toNat ≤ 65536 := (wf (w := w + v) (by simp [inP]; omega)).s2
  have h4 : (2 : Int) ^ v.toNat ≤ 65536 := (wf hv).s2
  have h0 : 0 ≤ a * 2 ^ v.toNat := Int.mul_nonneg a0 omG
  rw [em, u4 (n := a * 2 ^ v.toNat) omG omG, u4 omG omG]
  unfold sB
  rw [if_pos ⟨ha, hb, h⟩]
theorem wid_no1 {w a n : Int} {s : Bool} (h : wordP w a = false) : uA w a n s = -1 := if_neg fun k => by rw [k.1] at h; cases h
theorem wid_no2 {w a n : Int} {s : Bool} (h : ¬ (w ≤ n ∧ n ≤ 16)) : uA w a n s = -1 := if_neg fun k => h k.2
theorem wid_T {w a n : Int} {s : Bool} (h : wordP w a = true) (h2 : w ≤ n ∧ n ≤ 16) (hs : s = true) : uA w a n s = a7 n (m8 w a) := by unfold uA; rw [if_pos ⟨h, h2⟩, if_pos hs]
theorem wid_F {w a n : Int} {s : Bool} (h : wordP w a = true) (h2 : w ≤ n ∧ n ≤ 16) (hs : s = false) : uA w a n s = a := by unfold uA; rw [if_pos ⟨h, h2⟩, if_neg (by rw [hs]; decide)]
theorem zZ (w a low n : Int) (hl : low ≤ 1048576) : CallsV Tryz.prog 103 [.dat (.i w), .dat (.i a), .dat (.i low), .dat (.i n)] (.dat (.i (x9 w a low n))) := by
  refine oV Tryz.func103 ⟨?_⟩
  repeat' (first | ((with_reducible refine fun (K1 : KT) hK => ?_); refine iA ⟨?_⟩) | ((with_reducible show K1 _ _); subst hK; conv => whnf) | (with_reducible exact rfl) | refine m0 ⟨?_⟩ | ((with_reducible refine SplS.mk (fun h => ?_) (fun h => ?_)) <;> first | exact z1 | (subst h; conv => whnf) | (conv => whnf)) | refine u2 ⟨?_⟩ ⟨?_⟩ | ((with_reducible first | refine g0 (g := 53) ?_ | show Exists _); refine ⟨_, dB .., rfl, ?_⟩; rotate_right; conv => whnf) | (intro h; conv => whnf))
  all_goals repeat clear hK K1
  all_goals first | exact di_eq (cut_no1 asmR) | (have ha := (show wordP w a = true by with_reducible assumption); have hw := eE (w6 ha).1; (try simp only [u4 (n := w - low) omG omG] at *); first | (rw [tI omG omG]; omega) | exact di_eq (cut_no2 omG) | (have hn : inP n 1 16 = true := (by simp [inP]; omega); refine di_eq ?_; rw [cut_yes ha omG, tL hn, uw hn, tI (n := low) omG omG])) | skip
theorem uZ (w a v b : Int) : CallsV Tryz.prog 105 [.dat (.i w), .dat (.i a), .dat (.i v), .dat (.i b)] (.dat (.i (sB w a v b))) := by
  refine oV Tryz.func105 ⟨?_⟩
  repeat' (first | ((with_reducible refine fun (K1 : KT) hK => ?_); refine iA ⟨?_⟩) | ((with_reducible show K1 _ _); subst hK; conv => whnf) | (with_reducible exact rfl) | refine m0 ⟨?_⟩ | ((with_reducible refine SplS.mk (fun h => ?_) (fun h => ?_)) <;> first | exact z1 | (subst h; conv => whnf) | (conv => whnf)) | refine u2 ⟨?_⟩ ⟨?_⟩ | ((with_reducible first | refine g0 (g := 53) ?_ | show Exists _); refine ⟨_, dB .., rfl, ?_⟩; rotate_right; conv => whnf) | (intro h; conv => whnf))
  all_goals repeat clear hK K1
  all_goals first | exact di_eq (nY asmR) | exact di_eq (mY asmR) | (have ha := (show wordP w a = true by with_reducible assumption); have hb := (show wordP v b = true by with_reducible assumption); have hw := eE (w6 ha).1; have hv := eE (w6 hb).1; (try simp only [u4 (n := w + v) omG omG] at *); first | (rw [uw (w6 hb).1]; omega) | exact di_eq (lY omG) | (refine di_eq ?_; rw [uw (w6 hb).1]; exact (kY ha hb omG).symm)) | skip
theorem pZ (w a n : Int) (s : Bool) : CallsV Tryz.prog 104 [.dat (.i w), .dat (.i a), .dat (.i n), .dat (.bool s)] (.dat (.i (uA w a n s))) := by
  refine oV Tryz.func104 ⟨?_⟩
  repeat' (first | ((with_reducible refine fun (K1 : KT) hK => ?_); refine iA ⟨?_⟩) | ((with_reducible show K1 _ _); subst hK; conv => whnf) | (with_reducible exact rfl) | refine m0 ⟨?_⟩ | ((with_reducible refine SplS.mk (fun h => ?_) (fun h => ?_)) <;> first | exact z1 | ((fail_if_success (have _x : @Eq Bool _ _ := h)); subst h; conv => whnf) | (conv => whnf)) | ((with_reducible first | refine g0 (g := 53) ?_ | show Exists _); refine ⟨_, dB .., rfl, ?_⟩; rotate_right; conv => whnf) | ((with_reducible first | refine g0 (g := 67) ?_ | show Exists _); refine ⟨_, qK .., rfl, ?_⟩; rotate_right; conv => whnf) | ((with_reducible first | refine g0 (g := 54) ?_ | show Exists _); refine ⟨_, i_WordOf .., rfl, ?_⟩; rotate_right; conv => whnf) | ((with_reducible first | refine g0 (g := 123) ?_ | show Exists _); refine ⟨_, qN .., rfl, ?_⟩; rotate_right; conv => whnf) | (intro h; conv => whnf))
  all_goals repeat clear hK K1
  all_goals first | exact di_eq (wid_no1 asmR) | (simp only [inP, Bool.and_eq_true, Bool.and_eq_false_iff, decide_eq_true_eq, decide_eq_false_iff_not] at *; first | exact di_eq (wid_no2 (by have := eE (w6 (show wordP w a = true by with_reducible assumption)).1; omega)) | exact di_eq (wid_T asmR omG asmR) | exact di_eq (wid_F asmR omG asmR)) | skip
theorem i_evC (op w n : Int) (nm : ByteArray) (ks : List V.Term) (ho : op = 0) : CallsV Tryz.prog 80 [.agg [.dat (.i op), .dat (.i w), .dat (.i n), .dat (.str nm), .dat (.seq .terms ks)], .nilm] (.dat (.i n)) := by
  refine oV Tryz.func80 ⟨?_⟩
  repeat' (first | ((with_reducible refine fun (K1 : KT) hK => ?_); refine iA ⟨?_⟩) | ((with_reducible show K1 _ _); subst hK; conv => whnf) | (with_reducible exact rfl) | refine m0 ⟨?_⟩ | ((with_reducible refine SplS.mk (fun h => ?_) (fun h => ?_)) <;> first | exact z1 | (subst h; conv => whnf) | (conv => whnf)) | (intro h; conv => whnf))
  all_goals repeat clear hK K1
  all_goals first | rfl | contradiction | skip
section
variable {t : V.Term} {x : List Int}
theorem ap_u (ht : okT t = true) (ho : t.op = 1 ∨ t.op = 2) : q6 t x = kC t.op t.w (xAt x 0) := by unfold q6; rw [if_pos ho, xF ht ho]
theorem ap_b (ho : 3 ≤ t.op ∧ t.op ≤ 16) : q6 t x = d6 t.op (k0 t).w (xAt x 0) (xAt x 1) := by unfold q6; rw [if_neg omG, if_pos ho]
theorem ap_i1 (ho : t.op = 17) (h : x.getD (Int.toNat 0) K.ints.dflt = 1) : q6 t x = xAt x 1 := by unfold q6; rw [if_neg omG, if_neg omG, if_pos ho]; exact if_pos h
theorem ap_i2 (ho : t.op = 17) (h : ¬ x.getD (Int.toNat 0) K.ints.dflt = 1) : q6 t x = xAt x 2 := by unfold q6; rw [if_neg omG, if_neg omG, if_pos ho]; exact if_neg h
theorem ap_j (ho : t.op = 18) : q6 t x = sB (k0 t).w (xAt x 0) (k1 t).w (xAt x 1) := by unfold q6; rw [if_neg omG, if_neg omG, if_neg omG, if_pos ho]
theorem ap_c (ho : t.op = 19) : q6 t x = x9 (k0 t).w (xAt x 0) t.n t.w := by unfold q6; rw [if_neg omG, if_neg omG, if_neg omG, if_neg omG, if_pos ho]
theorem ap_g (ho : t.op = 20 ∨ t.op = 21) : q6 t x = uA (k0 t).w (xAt x 0) t.w (t.op == 21) := by unfold q6; rw [if_neg omG, if_neg omG, if_neg omG, if_neg omG, if_neg omG]
theorem xA (ks : List V.Term) (i : Nat) : xAt (nums ks) i = (kAt ks i).n := by
  unfold xAt nums kAt
  rw [List.getD_eq_getElem?_getD, List.getD_eq_getElem?_getD, List.getElem?_map]
  cases ks[i]? <;> rfl
theorem nL {ks : List V.Term} {i : Nat} (h : o4 ks = true) (hi : i < ks.length) : (kAt ks i).op = 0 := by
  have e : kAt ks i = ks[i] := by rw [kAt, List.getD_eq_getElem?_getD, List.getElem?_eq_getElem hi]; rfl
  rw [e]
  exact of_decide_eq_true (List.all_eq_true.1 h _ (List.getElem_mem hi))
theorem cut_n (ht : okT t = true) (ho : t.op = 19) : t.n ≤ 1048576 := by
  have h1 := xC ht ho
  have h2 := aC (d3 ht omG)
  have h3 := aC ht
  omega
end
theorem mE {a b : Int} (h : a = b) : Dat.i b = Dat.int .i64 a := congrArg Dat.i h.symm
section
variable {t : V.Term}
theorem va_u (ht : okT t = true) (ho : t.op = 1 ∨ t.op = 2) : kC t.op (k0 t).w (k0 t).n = q6 t (nums t.kids) := by rw [ap_u ht ho, xA, xF ht ho]
theorem va_b (ho : 3 ≤ t.op ∧ t.op ≤ 16) : d6 t.op (k0 t).w (k0 t).n (k1 t).n = q6 t (nums t.kids) := by rw [ap_b ho, xA, xA]
theorem va_i1 (ho : t.op = 17) (h : (t.kids.getD (Int.toNat 0) K.terms.dflt).n = 1) : (k1 t).n = q6 t (nums t.kids) := by rw [ap_i1 ho ((xA t.kids 0).trans h), xA]
theorem va_i2 (ho : t.op = 17) (h : ¬ (t.kids.getD (Int.toNat 0) K.terms.dflt).n = 1) : (k2 t).n = q6 t (nums t.kids) := by rw [ap_i2 ho (fun e => h ((xA t.kids 0).symm.trans e)), xA]
theorem va_j (ho : t.op = 18) : sB (k0 t).w (k0 t).n (k1 t).w (k1 t).n = q6 t (nums t.kids) := by rw [ap_j ho, xA, xA]
theorem va_c (ho : t.op = 19) : x9 (k0 t).w (k0 t).n t.n t.w = q6 t (nums t.kids) := by rw [ap_c ho, xA]
theorem va_g (ho : t.op = 20 ∨ t.op = 21) : uA (k0 t).w (k0 t).n t.w (t.op == 21) = q6 t (nums t.kids) := by rw [ap_g ho, xA]
end
theorem i_evA (t : V.Term) (ht : okT t = true) (ho : 1 ≤ t.op ∧ t.op ≤ 21) (hc : o4 t.kids = true) : CallsV Tryz.prog 80 [.agg [.dat (.i t.op), .dat (.i t.w), .dat (.i t.n), .dat (.str t.name), .dat (.seq .terms t.kids)], .nilm] (.dat (.i (q6 t (nums t.kids)))) := by
  refine oV Tryz.func80 ⟨?_⟩
  repeat' (first | ((with_reducible refine fun (K1 : KT) hK => ?_); refine iA ⟨?_⟩) | ((with_reducible show K1 _ _); subst hK; conv => whnf) | (with_reducible exact rfl) | refine m0 ⟨?_⟩ | ((with_reducible refine SplS.mk (fun h => ?_) (fun h => ?_)) <;> first | exact z1 | (subst h; conv => whnf) | (conv => whnf)) | refine u2 ⟨?_⟩ ⟨?_⟩ | ((with_reducible first | refine g0 (g := 80) ?_ | show Exists _); refine ⟨_, i_evC (ho := ?_) .., rfl, ?_⟩; rotate_right; conv => whnf) | ((with_reducible first | refine g0 (g := 102) ?_ | show Exists _); refine ⟨_, qab .., rfl, ?_⟩; rotate_right; conv => whnf) | ((with_reducible first | refine g0 (g := 103) ?_ | show Exists _); refine ⟨_, zZ (hl := ?_) .., rfl, ?_⟩; rotate_right; conv => whnf) | ((with_reducible first | refine g0 (g := 104) ?_ | show Exists _); refine ⟨_, pZ .., rfl, ?_⟩; rotate_right; conv => whnf) | ((with_reducible first | refine g0 (g := 105) ?_ | show Exists _); refine ⟨_, uZ .., rfl, ?_⟩; rotate_right; conv => whnf) | ((with_reducible first | refine g0 (g := 106) ?_ | show Exists _); refine ⟨_, tB .., rfl, ?_⟩; rotate_right; conv => whnf) | (intro h; conv => whnf))
  all_goals repeat clear hK K1
  all_goals (have l1 := pF ht; have l2 := rB ht; have l3 := bB ht; first | omega | exact cut_n ht omG | exact nL hc (i := 0) omG | exact nL hc (i := 1) omG | exact nL hc (i := 2) omG | exact mE  (va_u ht omG) | exact mE  (va_b omG) | exact mE  (va_i1 omG asmR) | exact mE  (va_i2 omG asmR) | exact mE  (va_j omG) | exact mE  (va_c omG) | exact mE  (va_g omG) | skip)
def s5 (t : V.Term) : AV := .agg [.dat (.i t.op), .dat (.i t.w), .dat (.i t.n), .dat (.str t.name), .dat (.seq .terms t.kids)]
theorem st_eq {K : AX → AState → Prop} {n : Nat} {tm tm' : Nat → AV} {blk blk' : Nat → Option Blk} (key : K .normal ⟨n, tm, blk⟩) (h1 : ∀ j, tm j = tm' j) (h2 : ∀ j, blk j = blk' j) : K .normal ⟨n, tm', blk'⟩ := by
  rw [← funext h1, ← funext h2]; exact key
structure Fr (p : Prop) : Prop where
  h : p
theorem f7 {B : List Blk} {y : Int} {x : AV} {l' l : List AV} (h : Fr (vC B (.dat (.i y)) x ∧ fE B l' l)) : vC B (.dat (.i y)) x ∧ fE B l' l := h.h
theorem y0 {B : List Blk} {L : List Nat} {t : V.Term} {o w n : Int} {nm : ByteArray} {ks : List V.Term} (h : t = ⟨o, w, n, nm, ks⟩) :
    vC B (.dat (.i t.op)) (AV.numC L (.dat (.int .i64 o))) ∧ fE B [.dat (.i t.w), .dat (.i t.n), .dat (.str t.name), .dat (.seq .terms t.kids)] [AV.numC L (.dat (.int .i64 w)), AV.numC L (.dat (.int .i64 n)), AV.numC L (.dat (.str nm)), AV.numC L (.dat (.seq .terms ks))] := by
  subst h
  exact ⟨rfl, rfl, rfl, rfl, rfl, True.intro⟩
theorem gE {B : List Blk} {L : List Nat} {t : V.Term} {o w n : Int} {nm : ByteArray} (h : t = ⟨o, w, n, nm, []⟩) :
    vC B (.dat (.i t.op)) (AV.numC L (.dat (.int .i64 o))) ∧ fE B [.dat (.i t.w), .dat (.i t.n), .dat (.str t.name), .dat (.seq .terms t.kids)] [AV.numC L (.dat (.int .i64 w)), AV.numC L (.dat (.int .i64 n)), AV.numC L (.dat (.str nm)), AV.numC L .nils] := by
  subst h
  exact ⟨rfl, rfl, rfl, rfl, rfl, True.intro⟩
theorem fr5M {B : List Blk} {L : List Nat} {t : V.Term} {o w n : Int} {nm : ByteArray} {ks : List V.Term} (h : t = ⟨o, w, n, nm, ks⟩) :
    s8 B (s5 t) (AV.numM L (.agg [.dat (.int .i64 o), .dat (.int .i64 w), .dat (.int .i64 n), .dat (.str nm), .dat (.seq .terms ks)])) := by
  subst h
  exact ⟨rfl, rfl, rfl, rfl, rfl, True.intro⟩
theorem fr5Mn {B : List Blk} {L : List Nat} {t : V.Term} {o w n : Int} {nm : ByteArray} (h : t = ⟨o, w, n, nm, []⟩) :
    s8 B (s5 t) (AV.numM L (.agg [.dat (.int .i64 o), .dat (.int .i64 w), .dat (.int .i64 n), .dat (.str nm), .nils])) := by
  subst h
  exact ⟨rfl, rfl, rfl, rfl, rfl, True.intro⟩
theorem x6 (op w n : Int) (nm : ByteArray) (ks : List V.Term) : CallsV Tryz.prog 79 [.agg [.dat (.i op), .dat (.i w), .dat (.i n), .dat (.str nm), .dat (.seq .terms ks)]] (.dat (.bool (op == 0))) := by
  refine oV Tryz.func79 ⟨?_⟩
  repeat' (first | ((with_reducible refine fun (K1 : KT) hK => ?_); refine l6 ⟨?_⟩) | ((with_reducible show K1 _ _); subst hK; conv => whnf) | (with_reducible exact rfl) | refine m0 ⟨?_⟩ | ((with_reducible refine SplS.mk (fun h => ?_) (fun h => ?_)) <;> first | exact z1 | (subst h; conv => whnf) | (conv => whnf)) | (intro h; conv => whnf))
  all_goals repeat clear hK K1
  all_goals first | rfl | skip
theorem z6 (op w n : Int) (nm : ByteArray) (ks : List V.Term) (m : Int) : CallsV Tryz.prog 107 [.agg [.dat (.i op), .dat (.i w), .dat (.i n), .dat (.str nm), .dat (.seq .terms ks)], .dat (.i m)] (.dat (.bool (decide (op = 0 ∧ n = m)))) := by
  refine oV Tryz.func107 ⟨?_⟩
  repeat' (first | ((with_reducible refine fun (K1 : KT) hK => ?_); refine l6 ⟨?_⟩) | ((with_reducible show K1 _ _); subst hK; conv => whnf) | (with_reducible exact rfl) | refine m0 ⟨?_⟩ | ((with_reducible refine SplS.mk (fun h => ?_) (fun h => ?_)) <;> first | exact z1 | (subst h; conv => whnf) | (conv => whnf)) | (intro h; conv => whnf))
  all_goals repeat clear hK K1
  all_goals first | rfl | (refine db_eq ?_; rw [Bool.eq_iff_iff]; simp; done) | (refine db_eq ?_; rw [Bool.eq_iff_iff]; simp [*]; done) | (refine db_eq ?_; exact decide_eq_false omG) | (exact db_eq (by have h1 := (by with_reducible assumption : op = 0); rw [Bool.eq_iff_iff]; simp [h1])) | (exact db_eq (by rw [Bool.eq_iff_iff]; simp)) | (exact db_eq (by simp [*])) | skip
theorem t7 (op : Int) : CallsV Tryz.prog 110 [.dat (.i op)] (.dat (.bool (decide (u0 op)))) := by
  refine oV Tryz.func110 ⟨?_⟩
  repeat' (first | ((with_reducible refine fun (K1 : KT) hK => ?_); refine l6 ⟨?_⟩) | ((with_reducible show K1 _ _); subst hK; conv => whnf) | (with_reducible exact rfl) | refine m0 ⟨?_⟩ | ((with_reducible refine SplS.mk (fun h => ?_) (fun h => ?_)) <;> first | exact z1 | (subst h; conv => whnf) | (conv => whnf)) | (intro h; conv => whnf))
  all_goals repeat clear hK K1
  all_goals first | (refine db_eq ?_; unfold u0; first | (exact decide_eq_true omG) | (exact decide_eq_false omG)) | skip
theorem v7 (w n : Int) (h : wordP w n = true) : CallsV Tryz.prog 50 [.dat (.i w), .dat (.i n)] (.agg [.dat (.i 0), .dat (.i w), .dat (.i n), .dat (.str ByteArray.empty), .dat (.seq .terms [])]) := by
  refine oV Tryz.func50 ⟨?_⟩
  repeat' (first | ((with_reducible refine fun (K1 : KT) hK => ?_); refine l6 ⟨?_⟩) | ((with_reducible show K1 _ _); subst hK; conv => whnf) | (with_reducible refine f7 ?_) | (with_reducible exact rfl) | refine m0 ⟨?_⟩ | ((with_reducible refine SplS.mk (fun h => ?_) (fun h => ?_)) <;> first | exact z1 | (subst h; conv => whnf) | (conv => whnf)) | ((with_reducible first | refine g0 (g := 53) ?_ | show Exists _); refine ⟨_, dB .., rfl, ?_⟩; rotate_right; conv => whnf) | (intro h; conv => whnf))
  all_goals repeat clear hK K1
  all_goals first | exact ⟨gE (t := cT w n) rfl⟩ | exact rfl | exact True.intro | (exact absurd (h.symm.trans asmR) (by decide)) | skip
section
variable {t : V.Term}
theorem z8 (ht : okT t = true) (ho : t.op = 1 ∨ t.op = 2 ∨ t.op = 19 ∨ t.op = 20 ∨ t.op = 21) : (0 : Int) < t.kids.length := by rw [pF ht ho]; decide
theorem o5 (ht : okT t = true) (ho : (3 ≤ t.op ∧ t.op ≤ 16) ∨ t.op = 18) : (0 : Int) < t.kids.length := by rw [rB ht ho]; decide
theorem n5 (ht : okT t = true) (ho : (3 ≤ t.op ∧ t.op ≤ 16) ∨ t.op = 18) : (1 : Int) < t.kids.length := by rw [rB ht ho]; decide
theorem hC (ht : okT t = true) (ho : t.op = 17) : (0 : Int) < t.kids.length := by rw [bB ht ho]; decide
theorem gC (ht : okT t = true) (ho : t.op = 17) : (1 : Int) < t.kids.length := by rw [bB ht ho]; decide
theorem fC (ht : okT t = true) (ho : t.op = 17) : (2 : Int) < t.kids.length := by rw [bB ht ho]; decide
end
theorem tn2 : Int.toNat 2 = 2 := rfl
structure IHR (m : Nat) : Prop where
  call : ∀ (op w n : Int) (nm : ByteArray) (ks : List V.Term), okT ⟨op, w, n, nm, ks⟩ = true → d5 ⟨op, w, n, nm, ks⟩ < m →
    CallsV Tryz.prog 66 [.agg [.dat (.i op), .dat (.i w), .dat (.i n), .dat (.str nm), .dat (.seq .terms ks)]] (s5 (d4 ⟨op, w, n, nm, ks⟩))
theorem ih_red {m : Nat} (ih : IHR m) {op w n : Int} {nm : ByteArray} {ks : List V.Term} (hk : okT ⟨op, w, n, nm, ks⟩ = true) (hm : d5 ⟨op, w, n, nm, ks⟩ < m) :
    CallsV Tryz.prog 66 [.agg [.dat (.i op), .dat (.i w), .dat (.i n), .dat (.str nm), .dat (.seq .terms ks)]] (s5 (d4 ⟨op, w, n, nm, ks⟩)) := ih.call op w n nm ks hk hm
theorem i_remake (op w n : Int) (ks : List V.Term) (m : Nat) (ih : IHR m) (hk : okT (oT op w n ks) = true) (hm : d5 (oT op w n ks) < m) : CallsV Tryz.prog 109 [.dat (.i op), .dat (.i w), .dat (.i n), .dat (.seq .terms ks)] (s5 (d4 (oT op w n ks))) := by
  refine oV Tryz.func109 ⟨?_⟩
  repeat' (first | ((with_reducible refine fun (K1 : KT) hK => ?_); refine l6 ⟨?_⟩) | ((with_reducible show K1 _ _); subst hK; conv => whnf) | (with_reducible refine f7 ?_) | (with_reducible exact rfl) | refine m0 ⟨?_⟩ | ((with_reducible refine SplS.mk (fun h => ?_) (fun h => ?_)) <;> first | exact z1 | ((fail_if_success (have _x : @Eq Bool _ _ := h)); subst h; conv => whnf) | (conv => whnf)) | ((with_reducible first | refine g0 (g := 66) ?_ | show Exists _); refine ⟨_, ih_red (ih := by assumption) (hk := ?_) (hm := ?_) .., rfl, ?_⟩; rotate_right; conv => whnf) | (intro h; conv => whnf))
  all_goals repeat clear hK K1
  all_goals first | exact ⟨y0 (t := d4 (oT op w n ks)) (V.Term.eta _).symm⟩ | exact True.intro | (with_reducible assumption) | exact hk | exact hm | exact rfl | skip
section
variable {t x : V.Term} {b : Bool}
theorem q8 (ht : okT t = true) (ho : 1 ≤ t.op ∧ t.op ≤ 21) (hc : o4 t.kids = false) (hr : l5 t = (x, b)) : d4 t = if b = true then d4 x else x := by
  have hl : t.kids.length ≠ 0 := by
    intro e
    have h1 := pF ht
    have h2 := rB ht
    have h3 := bB ht
    omega
  cases b with
  | true => rw [if_pos rfl]; exact wX ht hl hc hr
  | false => rw [if_neg Bool.false_ne_true]; exact vX hl hc hr
end
end Vg
